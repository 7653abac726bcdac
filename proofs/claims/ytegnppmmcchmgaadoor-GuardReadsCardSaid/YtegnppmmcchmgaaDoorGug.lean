/-
  The first clear step from one on: the program's (a loop that is begun anew by a goto).
-/
import Derived.Test.YtegnppmmcchmgaaDoorGud
import Derived.WalkMore
import Derived.ScopeJumps
set_option linter.unusedSimpArgs false
set_option linter.unusedVariables false
namespace Go.Proofs.YtegnppmmcchmgaaDoor
open Go Go.RowKit
attribute [local go_sem] via_cell via_frozen

/-- A scope in which the run jumps back to one label: the pass from the label, proved once, serves the first one too. -/
theorem wp_scope_again {P : Program} {a : Act} {w : World} {Q : Exit → Act → World → Prop} {c rest : Code} (l : Nat) (J : Act → World → Prop) (μ : Act → World → Nat) (hf : findLabel c l = some (Code.skip.seq rest))
    (pass : ∀ a w, J a w → rest.wp P (Exit.jump l (fun a' w' => J a' w' ∧ μ a' w' < μ a w) Q) a w)
    (first : (∀ a w, J a w → rest.wp P (Exit.jump l J Q) a w) → c.wp P (Exit.jump l J Q) a w) : (Code.scope c).wp P Q a w :=
  wp_scope_jumps l J μ hf (first fun a w hJ => Code.wp_mono (fun e a' w' h => by
    cases e with
    | goto t => exact ⟨h.1, h.2.1⟩
    | _ => exact h) (pass a w hJ)) (fun a w hJ => wp_seq (wp_skip (pass a w hJ)))
theorem chk_le {a : Int} {l : List Sec} (ha0 : 0 ≤ a) (h : chk a l = true) : ∀ s ∈ l, s.2 ≤ MAX := by
  induction l generalizing a with
  | nil => intro s hs; cases hs
  | cons t r ih =>
    obtain ⟨h0, h1, h2, h3, h4⟩ := chk_cons ha0 h
    intro s hs
    rcases List.mem_cons.1 hs with rfl | hs
    · omega
    · exact ih h0 h4 s hs
/-- What holds at each jump. -/
def NxtJ (A : Option Addr) (c : Nat) (l : List Sec) (at_ : Int) (W : World) (a' : Act) (w' : World) : Prop :=
  ∃ (z : Int) (u2 u3 u4 u5 u6 u7 u8 u9 u10 u11 u12 u13 u14 u15 u16 u17 u18 u19 u20 u21 u22 u23 u24 u25 u26 u27 u28 u29 u30 u31 u32 u33 u34 u35 u36 u37 : Value), a' = { tmps := #[.slice A l.length c, .int .i64 z, u2, u3, u4, u5, u6, u7, u8, u9, u10, u11, u12, u13, u14, u15, u16, u17, u18, u19, u20, u21, u22, u23, u24, u25, u26, u27, u28, u29, u30, u31, u32, u33, u34, u35, u36, u37], defers := [] } ∧ nxt l z = nxt l at_ ∧ Below W.heap.size W w'
/-- What the rounds have seen. -/
def ClearTo (l : List Sec) (z : Int) (k : Nat) : Prop := ∀ s ∈ l.take k, opnS s z = false
theorem ClearTo.succ {l : List Sec} {z : Int} {k : Nat} (h : ClearTo l z k) (hk : k < l.length) (h2 : opnS l[k] z = false) : ClearTo l z (k + 1) := by
  intro s hs
  rw [List.take_succ_eq_append_getElem hk, List.mem_append] at hs
  rcases hs with hs | hs
  · exact h s hs
  · simp at hs; rw [hs]; exact h2
set_option maxHeartbeats 2000000 in
theorem next_any (B : Nat) (A : Option Addr) (c m : Nat) (l : List Sec) (at_ : Int) (W : World) (h : Rd W B 2 A m (Cs encS l)) (hx : l.length = m) (hB : B ≤ W.heap.size) (hm : m ≤ 4096) (hc : chk 0 l = true) (r : Int) (hr : nxt l at_ = r) :
    Calls Tryd.prog 37 #[.slice A m c, .int .i64 at_] W fun e W' => e = .returned (.int .i64 r) ∧ Below W.heap.size W W' := by
  subst hx
  have HR := hide hr
  have HCK := hide hc
  have H := hide h
  clear h hr hc
  go_enter Tryd.func37, Tryd.ntmps37
  go_wp2_with fail
  refine wp_scope_again 0 (NxtJ A c l at_ W) (fun a' _ => (1073741825 - intOf (a'.tmps.getD 1 undef)).toNat) rfl ?pass ?first
  case first =>
    intro HP
    go_wp2_with fail
    go_step3
    simp only [Exit.then]
    rename_i hK
    refine hK _ _ (HP _ _ ?_)
    exact ⟨at_, _, _, _, _, _, _, _, _, _, _, _, _, _, _, _, _, _, _, _, _, _, _, _, _, _, _, _, _, _, _, _, _, _, _, _, _, rfl, rfl, Below.refl _ _⟩
  case pass =>
    rintro a' w' ⟨z, u2, u3, u4, u5, u6, u7, u8, u9, u10, u11, u12, u13, u14, u15, u16, u17, u18, u19, u20, u21, u22, u23, u24, u25, u26, u27, u28, u29, u30, u31, u32, u33, u34, u35, u36, u37, rfl, hz, hbw0⟩
    have HZ := hide hz
    have HB0 := hide hbw0
    clear hz hbw0
    go_wp2_with fail
    go_loopw [1, 9] (fun q i wr => ∃ (k : Nat), k ≤ l.length ∧ q = .int .i64 z ∧ i = .int .i64 k ∧ ClearTo l z k ∧ Below W.heap.size W wr) (fun _ i _ => l.length - (intOf i).toNat)
    case atStart => exact ⟨0, Nat.zero_le _, rfl, rfl, (fun s hs => by simp at hs), HB0.out⟩
    case round =>
      obtain ⟨k, hk, rfl, rfl, hct, hbw⟩ := hrel
      have HCT := hide hct
      have HBW := hide hbw
      have hsz := hbw.size
      clear hct hbw
      by_cases hlt : k < l.length
      · obtain ⟨b, o, rfl, hb, d0, d1⟩ := (H.out.below (HBW.out.mono hB)).sec hlt
        have hbl : b < wr.heap.size := by omega
        have hki : (k : Int) < (l.length : Int) := by omega
        have HMEM := hide (List.getElem_mem hlt)
        have HSUC := hide (fun h2 => HCT.out.succ hlt h2)
        have HBN := hide (show Below W.heap.size W (wr.alloc (.cells #[.int .i64 l[k].1, .int .i64 l[k].2] 33)) from HBW.out.trans ((Below.refl _ _).alloc hsz _))
        generalize l[k] = s at *
        obtain ⟨f, t⟩ := s
        dsimp only at d0 d1
        clear hb
        by_cases c3 : t = 0
        · subst c3
          by_cases c1 : f ≤ z
          · have HF := hide (show 1073741825 = r from by rw [← HR.out, ← HZ.out]; exact (nxt_never (Int.le_refl 0) HCK.out HMEM.out c1 rfl).symm)
            go_wp2_with fail
            simp only [Exit.jump]
            go_ret
            exact ⟨ret_int HF.out, HBN.out⟩
          · have HG := hide (HSUC.out (by unfold opnS; simp [c1]))
            go_wp2_with fail
            go_roundw
            case rel => exact ⟨k + 1, by omega, rfl, by go_num, HG.out, HBN.out⟩
            case measure => simp [intOf]; omega
        · by_cases c1 : f ≤ z
          · by_cases c2 : z < t
            · have HG := hide (show nxt l t = nxt l at_ from by rw [← HZ.out]; exact (nxt_jump (Int.le_refl 0) HCK.out HMEM.out c1 c2).symm)
              have HT := hide (chk_le (Int.le_refl 0) HCK.out _ HMEM.out)
              go_wp2_with fail
              go_step3
              refine ⟨rfl, ⟨t, _, _, _, _, _, _, _, _, _, _, _, _, _, _, _, _, _, _, _, _, _, _, _, _, _, _, _, _, _, _, _, _, _, _, _, _, rfl, HG.out, HBN.out⟩, ?_⟩
              have ht : t ≤ 1073741824 := HT.out
              simp [intOf]
              omega
            · have HG := hide (HSUC.out (by unfold opnS; simp [c1, c2, c3]))
              go_wp2_with fail
              go_roundw
              case rel => exact ⟨k + 1, by omega, rfl, by go_num, HG.out, HBN.out⟩
              case measure => simp [intOf]; omega
          · have HG := hide (HSUC.out (by unfold opnS; simp [c1]))
            go_wp2_with fail
            go_roundw
            case rel => exact ⟨k + 1, by omega, rfl, by go_num, HG.out, HBN.out⟩
            case measure => simp [intOf]; omega
      · obtain rfl : k = l.length := by omega
        have HF := hide (show z = r from by
          rw [← HR.out, ← HZ.out]
          exact (nxt_clear (fun s hs => HCT.out s (by rw [List.take_length]; exact hs))).symm)
        go_wp2_with fail
        simp only [Exit.jump]
        go_ret
        exact ⟨ret_int HF.out, HBW.out⟩
end Go.Proofs.YtegnppmmcchmgaaDoor
