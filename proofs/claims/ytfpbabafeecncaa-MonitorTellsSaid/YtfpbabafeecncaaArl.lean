/-
  Arenas: many slabs taken (the closure).
-/
import Derived.Test.YtfpbabafeecncaaArk
set_option linter.unusedSimpArgs false
set_option linter.unusedVariables false
namespace Go.Proofs.Ytfpbabafeecncaa
open Go Go.RowKit
attribute [local go_sem] via_cell via_frozen

def TakeG (xs : List (Int × Int)) (many : Int) (ys : List (Int × Int)) : Prop := ∃ m : Nat, many = m ∧ m ≤ (ents xs 0).length ∧ ys = tk xs m
def TakeF (xs : List (Int × Int)) (many : Int) (k : Int) : Prop := (many < 0 ∧ k = 2) ∨ (0 ≤ many ∧ ((ents xs 0).length : Int) < many ∧ k = 6)
def TakeX (xs : List (Int × Int)) (many : Int) (gl : Nat) (b : Nat) (w : World) : Prop := ∃ (m : Nat) (v : Value), many = m ∧ RowBox w gl 54 b 43 2 m v (Cs encE ((ents xs 0).take m))

theorem RowBox.past {w w' : World} {g : Nat} {t : TypeId} {base E sz n : Nat} {v : Value} {xs : List Value} (h : RowBox w g t base E sz n v xs) (hk : ∀ j, (base ≤ j ∨ j = g) → j < w.heap.size → w'.heap[j]? = w.heap[j]?) : RowBox w' g t base E sz n v xs :=
  ⟨(hk g (.inr rfl) h.row.lt).trans h.row, own_other2 h.own (fun j hj hl => hk j (.inl hj) hl), h.lt⟩
theorem TakeX.stays (xs : List (Int × Int)) (many : Int) (gl : Nat) (b : Nat) (w w' : World) (h : TakeX xs many gl b w) (hk : ∀ j, (b ≤ j ∨ j = gl) → j < w.heap.size → w'.heap[j]? = w.heap[j]?) : TakeX xs many gl b w' := by
  obtain ⟨m, v, h1, h2⟩ := h
  exact ⟨m, v, h1, h2.past hk⟩
theorem Past2.after {p q m : Nat} {a b c : World} (h : Past2 p q a b) (hb : Below m b c) (ha : a.heap.size ≤ m) : Past2 p q a c :=
  ⟨hb.os.trans h.os, hb.tape.trans h.tape, hb.output.trans h.output, Nat.le_trans h.size hb.size, fun j h1 h2 hl => (hb.block j (by omega)).trans (h.block j h1 h2 hl)⟩
theorem Past2.row {p q g : Nat} {w w' : World} {t : TypeId} {cs : Array Value} (h : Past2 p q w w') (hr : RowAt w g t cs) (h1 : g ≠ p) (h2 : g ≠ q) : RowAt w' g t cs := (h.block g h1 h2 hr.lt).trans hr

set_option maxHeartbeats 1000000 in
theorem take1_any (gh gs gm gl n : Nat) (many : Int) (xs : List (Int × Int)) (w : World) (h : HandAt w gh gs n xs) (hn : n ≤ 4096) (hm : RowAt w gm 3 #[.int .i64 many]) (hl : RowAt w gl 54 #[.slice none 0 0]) (hms : gm ≠ gs) (hml : gm ≠ gl) (hls : gl ≠ gs) (hlh : gl ≠ gh) :
    Calls Try.prog 88 #[.pointer (some ⟨gh, 0, none⟩), .pointer (some ⟨gm, 0, none⟩), .pointer (some ⟨gl, 0, none⟩)] w (DoesRes gl gh gs n (TakeG xs many) (TakeF xs many) (TakeX xs many gl) w) := by
  have HH := hide h
  have HL := hide hl
  have HM := hide hm
  have m0 := row1 hm
  have hx0 := row1 h.box
  have l0 := h.box.lt
  have l1 := hm.lt
  have l2 := hl.lt
  have l3 := h.row.lt
  clear h hl hm
  by_cases hneg : many < 0
  · have hd : decide (0 ≤ many) = false := by simp; omega
    go_enter Try.func88, Try.ntmps88
    go_wp2_with fail
    refine (need_no 2 _).mono ?_
    rintro e w1 ⟨rfl, rfl⟩
    go_wp2_with fail
    exact ⟨rfl, Past2.refl _ _ _, .inr ⟨2, rfl, .inl ⟨hneg, rfl⟩⟩⟩
  · obtain ⟨m, rfl⟩ := Int.eq_ofNat_of_zero_le (show 0 ≤ many by omega)
    by_cases hmn : m ≤ n
    · have hmI : (m : Int) ≤ (n : Int) := by omega
      go_enter Try.func88, Try.ntmps88
      go_wp2_with fail
      refine (need_ok 2 _).mono ?_
      rintro e w1 ⟨rfl, rfl⟩
      go_wp2_with fail
      refine wp_region_tail 8 (by kernel_rfl) (by kernel_rfl) ?_
      simp only [List.take_succ_cons, List.take_zero, List.drop_succ_cons, List.drop_zero]
      repeat (go_big_quiet_step (fail))
      refine tail_out fun w2 hb2 => ?_
      have HH2 := hide (HH.out.below hb2)
      have HL2 := hide (HL.out.below hb2)
      have HM2 := hide (HM.out.below hb2)
      have HB2 := hide hb2
      have m0 := kept hb2 m0
      clear hb2 hx0
      go_wp2_with fail
      refine (need_ok 6 _).mono ?_
      rintro e w3 ⟨rfl, rfl⟩
      go_wp2_with fail
      have hs2 := HB2.out.size
      go_loopw [17] (fun i wr => ∃ j : Nat, j ≤ m ∧ j ≤ (ents xs 0).length ∧ i = .int .i64 j ∧ HandAt wr gh gs n (tk xs j) ∧ (∃ v, RowBox wr gl 54 w.heap.size 43 2 j v (Cs encE ((ents xs 0).take j))) ∧ Past2 gs gl w wr) (fun i _ => m - (intOf i).toNat)
      case atStart => exact ⟨0, Nat.zero_le _, Nat.zero_le _, rfl, by simpa [tk] using HH2.out, ⟨_, HL2.out, World.ownsRow_nil _ _ _ _, l2⟩, Past2.of_below HB2.out⟩
      case round =>
        obtain ⟨j, hj, hje, rfl, hhj, ⟨v, hbox⟩, hpj⟩ := hrel
        have HHJ := hide hhj
        have HX := hide hbox
        have HPJ := hide hpj
        have hszj := hpj.size
        have d1 := hbox.cell
        have dl := hbox.row.lt
        have hle := ents_length xs 0
        have hxl := HH.out.len
        have HTE := hide (tk_ents xs j)
        clear hhj hbox hpj
        by_cases hlt : j < m
        · have HTK0 := take_any gh gs n (tk xs j) wr.drew ⟨HHJ.out.len, HHJ.out.ne, HHJ.out.box, HHJ.out.row⟩ hn
          by_cases hjl : j < (ents xs 0).length
          · have HTS := hide (tk_succ xs j hjl)
            have HTT := hide (List.take_succ_eq_append_getElem hjl)
            have HDE := hide (List.drop_eq_getElem_cons hjl)
            generalize (ents xs 0)[j] = x at *
            have HTK : Hid (Calls Try.prog 90 #[.pointer (some ⟨gh, 0, none⟩)] wr.drew fun e w5 => e = .returned (.agg #[.int .i64 x.1, .int .u64 x.2]) ∧ HandAt w5 gh gs n (tk xs (j + 1)) ∧ RowBox w5 gl 54 w.heap.size 43 2 j v (Cs encE ((ents xs 0).take j)) ∧ Past2 gs gl wr w5 ∧ wr.heap.size ≤ w5.heap.size) := hide (HTK0.mono (by
              rintro e w5 (⟨he, _, _⟩ | ⟨x', r, he, rfl, hh5, hp5⟩)
              · rw [HTE.out, HDE.out] at he; cases he
              · rw [HTE.out, HDE.out] at he
                injection he with he1 he2
                subst he1
                refine ⟨rfl, by rw [HTS.out]; exact hh5, HX.out.past (fun i hi hl => ?_), ⟨hp5.below.os, hp5.below.tape, hp5.below.output, hp5.size, fun i h1 _ hl => hp5.block i h1 hl⟩, hp5.size⟩
                have hi' : i ≠ gs := by rcases hi with hi | rfl <;> omega
                exact hp5.block i hi' hl))
            clear HTK0
            obtain ⟨Av, cv, rfl, hcv, hcvm⟩ := own_form2 HX.out.own
            go_wp2_with fail
            go_region_law (first
              | (go_simp; go_at_call 90; with_reducible refine HTK.out.mono ?_; rintro e w5 ⟨rfl, hh5, hbox5, hp5, hs5⟩; have HX5 := hide hbox5; have HH5 := hide hh5; have HP5 := hide hp5; have c5 := hbox5.cell; have l5 := hbox5.row.lt; clear hbox5 hh5 hp5)
              | (rw [if_pos (by rfl)]; refine wp_app elE _ _ rfl rfl (HX5.out.own.alloc _) rfl (Rd.new w5 #[.int .i64 x.1, .int .u64 x.2] 43 2 1 rfl) (by simp [Value.oneCell']) (by omega) (by simp; omega) ?_; intro v6 w6 hown6 hb6 _ _; obtain ⟨A6, c6, rfl, hc6, hcm6⟩ := own_form2 hown6; have HO6 := hide hown6; have HB6 := hide (((Below.refl w.heap.size w5).alloc (by omega) (.cells #[.int .i64 x.1, .int .u64 x.2] 43)).trans hb6); have HR6 := hide (HX5.out.row.belowB (by omega) HB6.out); have d6 := row1 HR6.out; have f6 := HR6.out.frozen 0; have l6 := HR6.out.lt; clear hown6 hb6))
            all_goals
              go_wp2_with fail
              go_roundw
              case rel =>
                refine ⟨j + 1, by omega, by omega, by go_num, ⟨by rw [tk_length]; exact HH.out.len, HH5.out.ne, (HH5.out.box.belowB l0 HB6.out).setNe (Ne.symm hlh), (HH5.out.row.belowB l3 HB6.out).setNe (Ne.symm hls)⟩, ⟨_, RowBox.store HR6.out l2 ?_⟩, ((HPJ.out.trans HP5.out).after HB6.out (Nat.le_refl _)).trans (Past2.set2 _ _)⟩
                rw [HTT.out, Cs_append]
                exact HO6.out
              case measure => simp [intOf]; omega
          · have HTK : Hid (Calls Try.prog 90 #[.pointer (some ⟨gh, 0, none⟩)] wr.drew fun e w5 => e = .panicked (errX 6) ∧ Past2 gs gl wr w5) := hide (HTK0.mono (by
              rintro e w5 (⟨he, rfl, hb5⟩ | ⟨x', r, he, _, _, _⟩)
              · exact ⟨rfl, ⟨hb5.os, hb5.tape, hb5.output, hb5.size, fun i _ _ hl => hb5.block i hl⟩⟩
              · rw [HTE.out, List.drop_of_length_le (by omega)] at he; cases he))
            clear HTK0
            go_wp2_with fail
            refine wp_region_held_drew (S := fun wX => wX.cell? ⟨gl, 0, none⟩ = some v) (by kernel_rfl) (by exact d1) (fun hHeld => ?_)
            refine wpAnyH_take (i := 0) (v := v) rfl (by kernel_rfl) (by kernel_rfl) (by kernel_rfl) (fun _ _ _ h => h) (Or.inl ⟨by rfl, fun w hw => ?_⟩) (by assumption) ?_
            · (try dsimp only at hw)
              go_simp
              first | done | with_reducible rfl
            simp only [Act.put, List.getElem_toArray, List.getElem_cons_succ, List.getElem_cons_zero, List.setIfInBounds_toArray, List.set_cons_zero, List.set_cons_succ]
            refine wpAnyH_take (i := 1) (v := .pointer (some ⟨gh, 0, none⟩)) rfl (by kernel_rfl) (by kernel_rfl) (by kernel_rfl) (fun _ _ _ h => h) (Or.inl ⟨by rfl, fun w hw => ?_⟩) (by assumption) ?_
            · (try dsimp only at hw)
              go_simp
              first | done | with_reducible rfl
            simp only [Act.put, List.getElem_toArray, List.getElem_cons_succ, List.getElem_cons_zero, List.setIfInBounds_toArray, List.set_cons_zero, List.set_cons_succ]
            refine wpAnyH_ready (rs := [2]) (by kernel_rfl) (by simp) ?_
            refine AllReadyH.cons rfl (fun K hK => ?_) AllReadyH.nil
            go_simp
            refine HTK.out.mono ?_
            rintro e w5 ⟨rfl, hp5⟩
            exact ⟨rfl, HPJ.out.trans hp5, .inr ⟨6, rfl, .inr ⟨by omega, by omega, rfl⟩⟩⟩
        · obtain rfl : j = m := by omega
          go_wp2_with fail
          go_end0
          exact ⟨HPJ.out, .inl ⟨rfl, _, HHJ.out, ⟨j, rfl, hje, rfl⟩, j, v, rfl, HX.out⟩⟩
    · have hmI : decide ((m : Int) ≤ (n : Int)) = false := by simp; omega
      have hle := ents_length xs 0
      have hxl := HH.out.len
      go_enter Try.func88, Try.ntmps88
      go_wp2_with fail
      refine (need_ok 2 _).mono ?_
      rintro e w1 ⟨rfl, rfl⟩
      go_wp2_with fail
      refine wp_region_tail 8 (by kernel_rfl) (by kernel_rfl) ?_
      simp only [List.take_succ_cons, List.take_zero, List.drop_succ_cons, List.drop_zero]
      repeat (go_big_quiet_step (fail))
      refine tail_out fun w2 hb2 => ?_
      have HB2 := hide hb2
      clear hb2 hx0
      go_wp2_with fail
      refine (need_no 6 _).mono ?_
      rintro e w3 ⟨rfl, rfl⟩
      go_wp2_with fail
      exact ⟨rfl, Past2.of_below HB2.out, .inr ⟨6, rfl, .inr ⟨by omega, by omega, rfl⟩⟩⟩
end Go.Proofs.Ytfpbabafeecncaa
