/-
  The first entry, or reach, of which a closure says yes; whether there is one; whether it says yes of all.
-/
import Derived.Test.YtjlbnegdiabglaaDil
set_option linter.unusedSimpArgs false
set_option linter.unusedVariables false
namespace Go.Proofs.Ytjlbnegdiabglaa
open Go Go.RowKit
attribute [local go_sem] via_cell via_frozen

/-- i is the first place of which p holds, or -1. -/
def FirstP {α : Type} (z : α) (p : α → Bool) (xs : List α) (i : Int) : Prop := (i = -1 ∧ ∀ x ∈ xs, p x = false) ∨ ∃ k : Nat, k < xs.length ∧ i = k ∧ p (xs.getD k z) = true ∧ ∀ j, j < k → p (xs.getD j z) = false
theorem FirstP.any {α : Type} {z : α} {p : α → Bool} {xs : List α} {i : Int} (h : FirstP z p xs i) : decide (0 ≤ i) = xs.any p := by
  rcases h with ⟨rfl, h⟩ | ⟨k, hk, rfl, hp, _⟩
  · rw [eq_comm, List.any_eq_false.2 (fun x hx => by rw [h x hx]; exact Bool.false_ne_true)]; rfl
  · rw [eq_comm, List.any_eq_true.2 ⟨xs.getD k z, by rw [List.getD_eq_getElem?_getD, List.getElem?_eq_getElem hk]; exact List.getElem_mem _, hp⟩]; simp
theorem any_not {α : Type} (p : α → Bool) : ∀ xs : List α, xs.any (fun x => !p x) = !xs.all p
  | [] => rfl
  | a :: l => by simp [any_not p l]
abbrev vE (x : En) : Value := .agg #[.int .i64 x.1, .int .u64 x.2]
abbrev vR (x : Rc) : Value := .agg (rC x)
/-- What a closure says of some, in any later world. -/
def ClosP {α : Type} (gf : Nat) (lb : Array Value) (enc : α → Value) (p : α → Bool) (V : α → Prop) (W : World) : Prop :=
  ∀ w x, Below W.heap.size W w → V x → Calls Try.prog gf (#[enc x] ++ lb) w fun e w' => e = .returned (.bool (p x)) ∧ Below w.heap.size w w'
theorem ClosP.later {α : Type} {gf : Nat} {lb : Array Value} {enc : α → Value} {p : α → Bool} {V : α → Prop} {W W2 : World} (h : ClosP gf lb enc p V W) (hb : Below W.heap.size W W2) : ClosP gf lb enc p V W2 := fun w x hw hV => h w x (hb.trans (hw.mono hb.size)) hV

set_option maxHeartbeats 1000000 in
theorem indexE_any (B : Nat) (A : Option Addr) (c gf : Nat) (lb : Array Value) (hg : ∀ args w, (callFunc gf args).run Try.prog w = .ok (.enter gf args) w) (p : En → Bool) (V : En → Prop) (xs : List En) (W : World) (h : Rd W B 2 A xs.length (Cs encE xs)) (hm : xs.length ≤ 4096) (hB : B ≤ W.heap.size) (hV : ∀ x ∈ xs, V x)
    (HC : ClosP gf lb vE p V W) :
    Calls Try.prog 61 #[.slice A xs.length c, .func (.func gf) #[] lb] W fun e W' => (∃ i : Int, e = .returned (.int .i64 i) ∧ FirstP (0, 0) p xs i) ∧ Below W.heap.size W W' := by
  obtain ⟨m, hx⟩ : ∃ m, xs.length = m := ⟨_, rfl⟩
  rw [hx] at hm ⊢
  have HX := hide hx
  have H := hide h
  have HCH := hide HC
  have HVV := hide hV
  clear h hx HC hV
  go_enter Try.func61, Try.ntmps61
  go_wp2_with fail
  go_loopw [8] (fun i wr => ∃ k : Nat, k ≤ m ∧ i = .int .i64 k ∧ (∀ j, j < k → p (xs.getD j (0, 0)) = false) ∧ Below W.heap.size W wr) (fun i _ => m - (intOf i).toNat)
  case atStart => exact ⟨0, Nat.zero_le _, rfl, fun j hj => absurd hj (Nat.not_lt_zero _), Below.refl _ _⟩
  case round =>
    obtain ⟨k, hk, rfl, hno, hb0⟩ := hrel
    have HN := hide hno
    have HBW := hide hb0
    clear hno hb0
    by_cases hlt : k < m
    · have hlx : k < xs.length := by rw [HX.out]; exact hlt
      have HHH := H.out.below (HBW.out.mono hB)
      obtain ⟨b, o, hA, hb, hc⟩ := HHH.elem encE_len hlx
      subst hA
      have HGD := hide (show xs.getD k (0, 0) = xs[k] from by rw [List.getD_eq_getElem?_getD, List.getElem?_eq_getElem hlx]; rfl)
      have HMM := hide (HVV.out _ (List.getElem_mem hlx))
      generalize xs[k] = x at *
      have d0 := hc 0 _ (by omega) rfl
      have d1 := hc 1 _ (by omega) rfl
      simp only [Nat.add_zero] at d0
      have hbl : b < wr.heap.size := Nat.lt_of_lt_of_le hb (Nat.le_trans hB HBW.out.size)
      have hkm : (k : Int) < (m : Int) := by omega
      have HM := hide (HCH.out wr x HBW.out HMM.out)
      obtain ⟨q, hq⟩ : ∃ q, p x = q := ⟨_, rfl⟩
      have HQ := hide hq
      rw [hq] at HM
      clear hq hb hc HHH
      go_wp2_with fail
      with_reducible refine HM.out.mono ?_
      rintro e w2 ⟨rfl, hb2⟩
      have HB2 := hide (HBW.out.trans (hb2.mono HBW.out.size))
      clear hb2
      cases q
      · have HN2 := hide (show ∀ j, j < k + 1 → p (xs.getD j (0, 0)) = false from fun j hj => by
          by_cases hjk : j = k
          · subst hjk; rw [HGD.out]; exact HQ.out
          · exact HN.out j (by omega))
        go_wp2_with fail
        go_roundw
        case rel => exact ⟨k + 1, by omega, by go_num, HN2.out, HB2.out⟩
        case measure => simp [intOf]; omega
      · have HF := hide (show FirstP (0, 0) p xs k from .inr ⟨k, hlx, rfl, by rw [HGD.out]; exact HQ.out, HN.out⟩)
        go_wp2_with fail
        go_ret
        exact ⟨⟨_, rfl, HF.out⟩, HB2.out⟩
    · have HF := hide (show FirstP (0, 0) p xs (-1) from .inl ⟨rfl, fun x hx => by
        obtain ⟨j, hj, e⟩ := List.getElem_of_mem hx
        have := HN.out j (by have := HX.out; omega)
        rw [List.getD_eq_getElem?_getD, List.getElem?_eq_getElem hj] at this
        rw [← e]; exact this⟩)
      go_wp2_with fail
      go_ret
      exact ⟨⟨_, rfl, HF.out⟩, HBW.out⟩
theorem containsE_any (B : Nat) (A : Option Addr) (c gf : Nat) (lb : Array Value) (hg : ∀ args w, (callFunc gf args).run Try.prog w = .ok (.enter gf args) w) (p : En → Bool) (V : En → Prop) (xs : List En) (W : World) (h : Rd W B 2 A xs.length (Cs encE xs)) (hm : xs.length ≤ 4096) (hB : B ≤ W.heap.size) (hV : ∀ x ∈ xs, V x)
    (HC : ClosP gf lb vE p V W) (r : Bool) (hr : xs.any p = r) :
    Calls Try.prog 71 #[.slice A xs.length c, .func (.func gf) #[] lb] W fun e W' => e = .returned (.bool r) ∧ Below W.heap.size W W' := by
  have HI := hide (indexE_any B A c gf lb hg p V xs W h hm hB hV HC)
  have HR := hide hr
  clear h HC hr hV
  go_enter Try.func71, Try.ntmps71
  go_wp2_with fail
  with_reducible refine HI.out.mono ?_
  rintro e w1 ⟨⟨i, rfl, hf⟩, hb⟩
  have HF := hide (show decide (0 ≤ i) = r from by rw [hf.any]; exact HR.out)
  have HB := hide hb
  clear hf hb
  go_wp2_with fail
  go_ret
  exact ⟨ret_bool (by rw [← HF.out]), HB.out⟩
theorem allE1_any (gb gf : Nat) (lb : Array Value) (hg : ∀ args w, (callFunc gf args).run Try.prog w = .ok (.enter gf args) w) (p : En → Bool) (V : En → Prop) (W : World) (hbx : RowAt W gb 48 #[.func (.func gf) #[] lb]) (HC : ClosP gf lb vE p V W) :
    ClosP 72 #[.pointer (some ⟨gb, 0, none⟩)] vE (fun x => !p x) V W := by
  intro w x hb hV
  have hrow := hbx.below hb
  have q0 := row1 hrow
  have ql := hrow.lt
  have hB1 : Below w.heap.size w (w.alloc (.cells #[.int .i64 x.1, .int .u64 x.2] 31)) := (Below.refl _ _).alloc (Nat.le_refl _) _
  obtain ⟨q, hq⟩ : ∃ q, p x = q := ⟨_, rfl⟩
  have HCC := hide (HC _ x (hb.trans (hB1.mono hb.size)) hV)
  rw [hq] at HCC
  show Calls _ _ _ _ (fun e w' => e = .returned (.bool (!p x)) ∧ Below w.heap.size w w')
  rw [hq]
  have HB1 := hide hB1
  clear hrow hB1 HC hbx hb hq hV
  go_enter Try.func72, Try.ntmps72
  go_wp2_with fail
  with_reducible refine HCC.out.mono ?_
  rintro e w1 ⟨rfl, hb1⟩
  have HB2 := hide (HB1.out.trans (hb1.mono HB1.out.size))
  clear hb1
  go_wp2_with fail
  go_ret
  exact ⟨rfl, HB2.out⟩
theorem allE_any (B : Nat) (A : Option Addr) (c gf : Nat) (lb : Array Value) (hg : ∀ args w, (callFunc gf args).run Try.prog w = .ok (.enter gf args) w) (p : En → Bool) (V : En → Prop) (xs : List En) (W : World) (h : Rd W B 2 A xs.length (Cs encE xs)) (hm : xs.length ≤ 4096) (hB : B ≤ W.heap.size) (hV : ∀ x ∈ xs, V x)
    (HC : ClosP gf lb vE p V W) (r : Bool) (hr : xs.all p = r) :
    Calls Try.prog 69 #[.slice A xs.length c, .func (.func gf) #[] lb] W fun e W' => e = .returned (.bool r) ∧ Below W.heap.size W W' := by
  have hB1 : Below W.heap.size W (W.alloc (.cells #[.func (.func gf) #[] lb] 48)) := (Below.refl _ _).alloc (Nat.le_refl _) _
  have HI := hide (containsE_any B A c 72 #[.pointer (some ⟨W.heap.size, 0, none⟩)] (enters_of Try.func72 (by kernel_rfl) rfl) (fun x => !p x) V xs _ (h.below (hB1.mono hB)) hm (Nat.le_trans hB hB1.size) hV
    (allE1_any W.heap.size gf lb hg p V _ (RowAt.new W 48 #[.func (.func gf) #[] lb]) (HC.later hB1)) (!r) (by rw [← hr]; exact any_not p xs))
  have HB1 := hide hB1
  clear h HC hr hV hB1
  go_enter Try.func69, Try.ntmps69
  go_wp2_with fail
  with_reducible refine HI.out.mono ?_
  rintro e w1 ⟨rfl, hb⟩
  have HB := hide (HB1.out.trans (hb.mono HB1.out.size))
  clear hb
  go_wp2_with fail
  go_ret
  exact ⟨ret_bool (by simp), HB.out⟩

set_option maxHeartbeats 1000000 in
theorem indexR_any (B : Nat) (A : Option Addr) (c gf : Nat) (lb : Array Value) (hg : ∀ args w, (callFunc gf args).run Try.prog w = .ok (.enter gf args) w) (p : Rc → Bool) (V : Rc → Prop) (xs : List Rc) (W : World) (h : Rd W B 6 A xs.length (Cs encR xs)) (hm : xs.length ≤ 4096) (hB : B ≤ W.heap.size) (hV : ∀ x ∈ xs, V x)
    (HC : ClosP gf lb vR p V W) :
    Calls Try.prog 23 #[.slice A xs.length c, .func (.func gf) #[] lb] W fun e W' => (∃ i : Int, e = .returned (.int .i64 i) ∧ FirstP ⟨(0, 0), 0, 0, 0, 0⟩ p xs i) ∧ Below W.heap.size W W' := by
  obtain ⟨m, hx⟩ : ∃ m, xs.length = m := ⟨_, rfl⟩
  rw [hx] at hm ⊢
  have HX := hide hx
  have H := hide h
  have HCH := hide HC
  have HVV := hide hV
  clear h hx HC hV
  go_enter Try.func23, Try.ntmps23
  go_wp2_with fail
  go_loopw [8] (fun i wr => ∃ k : Nat, k ≤ m ∧ i = .int .i64 k ∧ (∀ j, j < k → p (xs.getD j ⟨(0, 0), 0, 0, 0, 0⟩) = false) ∧ Below W.heap.size W wr) (fun i _ => m - (intOf i).toNat)
  case atStart => exact ⟨0, Nat.zero_le _, rfl, fun j hj => absurd hj (Nat.not_lt_zero _), Below.refl _ _⟩
  case round =>
    obtain ⟨k, hk, rfl, hno, hb0⟩ := hrel
    have HN := hide hno
    have HBW := hide hb0
    clear hno hb0
    by_cases hlt : k < m
    · have hlx : k < xs.length := by rw [HX.out]; exact hlt
      have HHH := H.out.below (HBW.out.mono hB)
      obtain ⟨b, o, hA, hb, hc⟩ := HHH.elem encR_len hlx
      subst hA
      have HGD := hide (show xs.getD k ⟨(0, 0), 0, 0, 0, 0⟩ = xs[k] from by rw [List.getD_eq_getElem?_getD, List.getElem?_eq_getElem hlx]; rfl)
      have HMM := hide (HVV.out _ (List.getElem_mem hlx))
      generalize xs[k] = x at *
      have d0 := hc 0 _ (by omega) rfl
      have d1 := hc 1 _ (by omega) rfl
      have d2 := hc 2 _ (by omega) rfl
      have d3 := hc 3 _ (by omega) rfl
      have d4 := hc 4 _ (by omega) rfl
      have d5 := hc 5 _ (by omega) rfl
      simp only [Nat.add_zero] at d0
      have hbl : b < wr.heap.size := Nat.lt_of_lt_of_le hb (Nat.le_trans hB HBW.out.size)
      have hkm : (k : Int) < (m : Int) := by omega
      have HM := hide (HCH.out wr x HBW.out HMM.out)
      obtain ⟨q, hq⟩ : ∃ q, p x = q := ⟨_, rfl⟩
      have HQ := hide hq
      rw [hq] at HM
      clear hq hb hc HHH
      go_wp2_with fail
      with_reducible refine HM.out.mono ?_
      rintro e w2 ⟨rfl, hb2⟩
      have HB2 := hide (HBW.out.trans (hb2.mono HBW.out.size))
      clear hb2
      cases q
      · have HN2 := hide (show ∀ j, j < k + 1 → p (xs.getD j ⟨(0, 0), 0, 0, 0, 0⟩) = false from fun j hj => by
          by_cases hjk : j = k
          · subst hjk; rw [HGD.out]; exact HQ.out
          · exact HN.out j (by omega))
        go_wp2_with fail
        go_roundw
        case rel => exact ⟨k + 1, by omega, by go_num, HN2.out, HB2.out⟩
        case measure => simp [intOf]; omega
      · have HF := hide (show FirstP ⟨(0, 0), 0, 0, 0, 0⟩ p xs k from .inr ⟨k, hlx, rfl, by rw [HGD.out]; exact HQ.out, HN.out⟩)
        go_wp2_with fail
        go_ret
        exact ⟨⟨_, rfl, HF.out⟩, HB2.out⟩
    · have HF := hide (show FirstP ⟨(0, 0), 0, 0, 0, 0⟩ p xs (-1) from .inl ⟨rfl, fun x hx => by
        obtain ⟨j, hj, e⟩ := List.getElem_of_mem hx
        have := HN.out j (by have := HX.out; omega)
        rw [List.getD_eq_getElem?_getD, List.getElem?_eq_getElem hj] at this
        rw [← e]; exact this⟩)
      go_wp2_with fail
      go_ret
      exact ⟨⟨_, rfl, HF.out⟩, HBW.out⟩
theorem containsR_any (B : Nat) (A : Option Addr) (c gf : Nat) (lb : Array Value) (hg : ∀ args w, (callFunc gf args).run Try.prog w = .ok (.enter gf args) w) (p : Rc → Bool) (V : Rc → Prop) (xs : List Rc) (W : World) (h : Rd W B 6 A xs.length (Cs encR xs)) (hm : xs.length ≤ 4096) (hB : B ≤ W.heap.size) (hV : ∀ x ∈ xs, V x)
    (HC : ClosP gf lb vR p V W) (r : Bool) (hr : xs.any p = r) :
    Calls Try.prog 43 #[.slice A xs.length c, .func (.func gf) #[] lb] W fun e W' => e = .returned (.bool r) ∧ Below W.heap.size W W' := by
  have HI := hide (indexR_any B A c gf lb hg p V xs W h hm hB hV HC)
  have HR := hide hr
  clear h HC hr hV
  go_enter Try.func43, Try.ntmps43
  go_wp2_with fail
  with_reducible refine HI.out.mono ?_
  rintro e w1 ⟨⟨i, rfl, hf⟩, hb⟩
  have HF := hide (show decide (0 ≤ i) = r from by rw [hf.any]; exact HR.out)
  have HB := hide hb
  clear hf hb
  go_wp2_with fail
  go_ret
  exact ⟨ret_bool (by rw [← HF.out]), HB.out⟩
theorem allR1_any (gb gf : Nat) (lb : Array Value) (hg : ∀ args w, (callFunc gf args).run Try.prog w = .ok (.enter gf args) w) (p : Rc → Bool) (V : Rc → Prop) (W : World) (hbx : RowAt W gb 55 #[.func (.func gf) #[] lb]) (HC : ClosP gf lb vR p V W) :
    ClosP 64 #[.pointer (some ⟨gb, 0, none⟩)] vR (fun x => !p x) V W := by
  intro w x hb hV
  have hrow := hbx.below hb
  have q0 := row1 hrow
  have ql := hrow.lt
  have hB1 : Below w.heap.size w (w.alloc (.cells (rC x) 33)) := (Below.refl _ _).alloc (Nat.le_refl _) _
  obtain ⟨q, hq⟩ : ∃ q, p x = q := ⟨_, rfl⟩
  have HCC := hide (HC _ x (hb.trans (hB1.mono hb.size)) hV)
  rw [hq] at HCC
  show Calls _ _ _ _ (fun e w' => e = .returned (.bool (!p x)) ∧ Below w.heap.size w w')
  rw [hq]
  have HB1 := hide hB1
  clear hrow hB1 HC hbx hb hq hV
  go_enter Try.func64, Try.ntmps64
  go_wp2_with fail
  with_reducible refine HCC.out.mono ?_
  rintro e w1 ⟨rfl, hb1⟩
  have HB2 := hide (HB1.out.trans (hb1.mono HB1.out.size))
  clear hb1
  go_wp2_with fail
  go_ret
  exact ⟨rfl, HB2.out⟩
theorem allR_any (B : Nat) (A : Option Addr) (c gf : Nat) (lb : Array Value) (hg : ∀ args w, (callFunc gf args).run Try.prog w = .ok (.enter gf args) w) (p : Rc → Bool) (V : Rc → Prop) (xs : List Rc) (W : World) (h : Rd W B 6 A xs.length (Cs encR xs)) (hm : xs.length ≤ 4096) (hB : B ≤ W.heap.size) (hV : ∀ x ∈ xs, V x)
    (HC : ClosP gf lb vR p V W) (r : Bool) (hr : xs.all p = r) :
    Calls Try.prog 45 #[.slice A xs.length c, .func (.func gf) #[] lb] W fun e W' => e = .returned (.bool r) ∧ Below W.heap.size W W' := by
  have hB1 : Below W.heap.size W (W.alloc (.cells #[.func (.func gf) #[] lb] 55)) := (Below.refl _ _).alloc (Nat.le_refl _) _
  have HI := hide (containsR_any B A c 64 #[.pointer (some ⟨W.heap.size, 0, none⟩)] (enters_of Try.func64 (by kernel_rfl) rfl) (fun x => !p x) V xs _ (h.below (hB1.mono hB)) hm (Nat.le_trans hB hB1.size) hV
    (allR1_any W.heap.size gf lb hg p V _ (RowAt.new W 55 #[.func (.func gf) #[] lb]) (HC.later hB1)) (!r) (by rw [← hr]; exact any_not p xs))
  have HB1 := hide hB1
  clear h HC hr hV hB1
  go_enter Try.func45, Try.ntmps45
  go_wp2_with fail
  with_reducible refine HI.out.mono ?_
  rintro e w1 ⟨rfl, hb⟩
  have HB := hide (HB1.out.trans (hb.mono HB1.out.size))
  clear hb
  go_wp2_with fail
  go_ret
  exact ⟨ret_bool (by simp), HB.out⟩
end Go.Proofs.Ytjlbnegdiabglaa
