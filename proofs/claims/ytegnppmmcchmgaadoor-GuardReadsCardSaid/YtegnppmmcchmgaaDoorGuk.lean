/-
  The rows of clear steps within a look's: the program's.
-/
import Derived.Test.YtegnppmmcchmgaaDoorGui
import Derived.Deep.RegionLaw
import Derived.Deep.Cut
set_option linter.unusedSimpArgs false
set_option linter.unusedVariables false
namespace Go.Proofs.YtegnppmmcchmgaaDoor
open Go Go.RowKit
attribute [local go_sem] via_cell via_frozen

/-- append onto a row of the call's own, as one step of a region that draws its order. -/
theorem step_app {P : Program} {t e : TypeId} {size bytes : Nat} {z : Value} {ops : Array Oper} {o : Oper} {a : Act} {Q : Exit → Act → World → Prop} {w : World} {EE : Prop} (E : ElemOk P t e size bytes z) {K : Act → World → Prop} (hgd : o.guard = none) (s x : Operand) (ho : o.op = .call { callee := .builtin .append, args := #[s, x], argTypes := #[t, t] })
    {base n : Nat} {xs : List Value} {v : Value} (hs : a.eval s = v) (hown : w.ownsRow base e size v n xs)
    {B : Nat} {A : Option Addr} {m c : Nat} {news : List Value} (hx : a.eval x = .slice A m c) (hr : Rd w B size A m news) (h1 : ∀ u ∈ news, u.oneCell' = true)
    (hb : (n + m) * bytes ≤ 140737488355328) (hbase : base ≤ w.heap.size)
    (h : ∀ v' w', w'.ownsRow base e size v' (n + m) (xs ++ news) → Below base w w' → w.grownBy w' v.ownBlock → K (a.put o.dst v') w') :
    if Region.wanted o (yielded ops a.tmps) = true then Oper.wp P o a w K Q else EE := by
  have hw : Region.wanted o (yielded ops a.tmps) = true := by simp [Region.wanted, hgd]
  rw [if_pos hw]
  exact wp_app E s x ho hs hown hx hr h1 hb hbase (fun v' w' a1 a2 a3 _ => h v' w' a1 a2 a3)
theorem row_grown {w w' : World} {g : Nat} {t : TypeId} {cs : Array Value} {row : Option Nat} (h : RowAt w g t cs) (hg : w.grownBy w' row) (hne : some g ≠ row) : RowAt w' g t cs := (hg.block g h.lt hne).trans h
/-- The rows of clear steps, from a up to b. -/
def spansF (l : List Sec) : Nat → Int → Int → List (Int × Int)
  | 0, _, _ => []
  | n + 1, a, b => if a ≤ b ∧ nxt l a ≤ b then spn l a b :: spansF l n ((spn l a b).2 + 1) b else []
def spansV (l : List Sec) (a b : Int) : List (Int × Int) × Int := if chk 0 l then (if lookB a b then (spansF l (b + 1 - a).toNat a b, 0) else ([], 2)) else ([], 160)
theorem spansF_stop {l : List Sec} {n : Nat} {a b : Int} (h : ¬ (a ≤ b ∧ nxt l a ≤ b)) : spansF l n a b = [] := by
  cases n with
  | zero => rfl
  | succ n => unfold spansF; rw [if_neg h]
/-- From one on. -/
theorem nxt_ge {l : List Sec} {a : Int} (hm : ∀ s ∈ l, s.2 ≤ MAX) (h : a ≤ MAX) : a ≤ nxt l a := by
  induction l generalizing a with
  | nil => exact Int.le_refl _
  | cons s r ih =>
    have hs := hm s (by simp)
    have hr : ∀ s ∈ r, s.2 ≤ MAX := fun s h => hm s (by simp [h])
    unfold nxt
    split
    · split
      · omega
      · split
        · have := ih hr hs; omega
        · exact ih hr h
    · exact ih hr h
/-- A row of clear steps begins where the first clear step is, and ends by b. -/
theorem spn_fst {l : List Sec} {a b : Int} (h : nxt l a ≤ b) : (spn l a b).1 = nxt l a := by
  unfold spn
  rw [if_neg (by omega)]
theorem spn_snd {l : List Sec} {a b : Int} (h : nxt l a ≤ b) : nxt l a ≤ (spn l a b).2 ∧ (spn l a b).2 ≤ b := by
  unfold spn
  rw [if_neg (by omega)]
  dsimp only
  split
  · rename_i e he
    have := List.find?_some he
    simp at this
    omega
  · omega
/-- What a round of Spans holds. -/
def SpnR (W : World) (l : List Sec) (a b : Int) (xs : List (Int × Int)) (f v : Value) (wr : World) : Prop :=
  ∃ (z : Int) (n : Nat) (pre : List (Int × Int)), f = .int .i64 z ∧ a ≤ z ∧ z ≤ 1073741825 ∧ (b + 1 - z).toNat ≤ n ∧ (xs = pre ++ spansF l n z b) ∧ (pre.length : Int) ≤ z - a ∧ wr.ownsRow W.heap.size 23 2 v pre.length (Cs encS pre) ∧ Below W.heap.size W wr
set_option maxHeartbeats 2000000 in
theorem spans_any (B : Nat) (A : Option Addr) (c m : Nat) (l : List Sec) (a b : Int) (W : World) (h : Rd W B 2 A m (Cs encS l)) (hx : l.length = m) (hB : B ≤ W.heap.size) (hm : m ≤ 4096) (xs : List (Int × Int)) (er : Int) (hr : spansV l a b = (xs, er)) :
    Calls Tryd.prog 26 #[.slice A m c, .int .i64 a, .int .i64 b] W fun e W' => ∃ v, e = .returned (.tuple #[v, .int .i64 er]) ∧ W'.ownsRow W.heap.size 23 2 v xs.length (Cs encS xs) ∧ xs.length ≤ 1073741825 ∧ Below W.heap.size W W' := by
  obtain ⟨x, hx1⟩ : ∃ x, chk 0 l = x := ⟨_, rfl⟩
  have HC := hide (check_any B A c m l W h hx hB hm x hx1)
  have H := hide h
  cases x with
  | false =>
    have hv : ([], 160) = (xs, er) := by rw [← hr]; unfold spansV; rw [hx1]; rfl
    injection hv with e1 e2
    subst e1
    subst e2
    clear h hr hx1
    go_enter Tryd.func26, Tryd.ntmps26
    go_wp2_with fail
    with_reducible refine HC.out.mono ?_
    rintro e w1 ⟨rfl, hb1⟩
    go_wp2_with fail
    go_ret2
    exact ⟨_, rfl, World.ownsRow_nil _ _ _ _, by simp, hb1⟩
  | true =>
    have HS := hide (look_any a b)
    obtain ⟨y, hy⟩ : ∃ y, lookB a b = y := ⟨_, rfl⟩
    rw [hy] at HS
    cases y with
    | false =>
      have hv : ([], 2) = (xs, er) := by rw [← hr]; unfold spansV; rw [hx1, hy]; rfl
      injection hv with e1 e2
      subst e1
      subst e2
      clear h hr hx1 hy
      go_enter Tryd.func26, Tryd.ntmps26
      go_wp2_with fail
      with_reducible refine HC.out.mono ?_
      rintro e w1 ⟨rfl, hb1⟩
      go_wp2_with fail
      with_reducible refine (HS.out _).mono ?_
      rintro e w2 ⟨rfl, rfl⟩
      go_wp2_with fail
      go_ret2
      exact ⟨_, rfl, World.ownsRow_nil _ _ _ _, by simp, hb1⟩
    | true =>
      have hv : (spansF l (b + 1 - a).toNat a b, 0) = (xs, er) := by rw [← hr]; unfold spansV; rw [hx1, hy]; rfl
      injection hv with e1 e2
      subst e2
      have HXS := hide e1
      have HCK := hide hx1
      have hab : 0 ≤ a ∧ b ≤ MAX ∧ a ≤ b := by
        unfold lookB stepB at hy
        simp only [Bool.and_eq_true, decide_eq_true_eq] at hy
        exact ⟨hy.1.1.1, hy.1.2.2, hy.2⟩
      have ha0 := hab.1
      have hbM : b ≤ 1073741824 := hab.2.1
      have hab2 := hab.2.2
      clear hab
      clear h hr hx1 hy e1
      go_enter Tryd.func26, Tryd.ntmps26
      go_wp2_with fail
      with_reducible refine HC.out.mono ?_
      rintro e w1 ⟨rfl, hb1⟩
      have HB1 := hide hb1
      clear hb1
      go_wp2_with fail
      with_reducible refine (HS.out _).mono ?_
      rintro e w2 ⟨rfl, rfl⟩
      go_wp2_with fail
      go_loopw [1, 8] (fun f v wr => SpnR W l a b xs f v wr) (fun f _ _ => (b + 1 - intOf f).toNat)
      case atStart => exact ⟨a, _, [], rfl, Int.le_refl _, by omega, Nat.le_refl _, HXS.out.symm, by simp, World.ownsRow_nil _ _ _ _, HB1.out⟩
      case round =>
        obtain ⟨z, n, pre, rfl, hza, hzM, hn, hxs, hpl, hown, hbw⟩ := hrel
        have HX := hide hxs
        have HO := hide hown
        have HBW := hide hbw
        have hsz := hbw.size
        clear hxs hown hbw
        by_cases hzb : z ≤ b
        · obtain ⟨f, hf⟩ : ∃ f, nxt l z = f := ⟨_, rfl⟩
          have HNX := hide (next_any B A c m l z wr (H.out.below (HBW.out.mono hB)) hx (Nat.le_trans hB hsz) hm HCK.out f hf)
          by_cases hfb : f ≤ b
          · obtain ⟨s, hs⟩ : ∃ s, spn l z b = s := ⟨_, rfl⟩
            have HSP := hide (fun (w : World) (hb : Below B W w) (hs0 : B ≤ w.heap.size) => span_any B A c m l z b w (H.out.below hb) hx hs0 hm HCK.out s hs)
            have hs1 := spn_snd (l := l) (a := z) (b := b) (by rw [hf]; exact hfb)
            have hge := nxt_ge (a := z) (chk_le (Int.le_refl 0) HCK.out) (by show z ≤ 1073741824; omega)
            rw [hs, hf] at hs1
            rw [hf] at hge
            obtain ⟨n, rfl⟩ : ∃ k, n = k + 1 := ⟨n - 1, by omega⟩
            have HXN := hide (show xs = (pre ++ [s]) ++ spansF l n (s.2 + 1) b from by
              rw [HX.out]
              simp only [spansF]
              rw [if_pos ⟨hzb, by rw [hf]; exact hfb⟩, hs]
              simp)
            obtain ⟨s1, s2⟩ := s
            dsimp only at hs1 HXN
            obtain ⟨hs1, hs2⟩ := hs1
            clear hf hs HX
            go_wp2_with fail
            with_reducible refine HNX.out.mono ?_
            rintro e w3 ⟨rfl, hb3⟩
            have HB3 := hide (HBW.out.trans (hb3.mono HBW.out.size))
            have HO3 := hide (own_keepB HO.out hb3)
            have hs3 := hb3.size
            clear hb3
            go_wp2_with fail
            with_reducible refine (HSP.out w3 (HB3.out.mono hB) (Nat.le_trans hB HB3.out.size)).mono ?_
            rintro e w4 ⟨rfl, hb4⟩
            have HB4 := hide (HB3.out.trans (hb4.mono HB3.out.size))
            have HO4 := hide (own_keepB HO3.out hb4)
            have hs4 := HB4.out.size
            dsimp only [lookV]
            clear hb4
            have HRN := hide (RowAt.new w4 23 #[.int .i64 s1, .int .i64 s2])
            have HO5 := hide (own_keepB HO4.out ((Below.refl _ _).alloc (Nat.le_refl _) (.cells #[.int .i64 s1, .int .i64 s2] 23)))
            have HB5 := hide (show Below W.heap.size W (w4.alloc (.cells #[.int .i64 s1, .int .i64 s2] 23)) from HB4.out.trans ((Below.refl _ _).alloc hs4 _))
            have HFAR := hide (fun g hg => (HO4.out.lt g hg).2)
            go_upto_region 8 with (fail)
            generalize w4.alloc (.cells #[.int .i64 s1, .int .i64 s2] 23) = w5 at *
            have q0 := row20 HRN.out
            have q1 := row21 HRN.out
            have ql := HRN.out.lt
            have hs5 := HB5.out.size
            have hpl2 : pre.length ≤ 1073741825 := by omega
            have HRD := hide (fun w => Rd.new w #[.int .i64 s1, .int .i64 s2] 23 2 1 rfl)
            go_region_law (refine step_app elL rfl _ _ rfl rfl (HO5.out.drew.alloc _) rfl (HRD.out _) (by simp [Value.oneCell']) (by omega) (by simp; omega) ?_; intro v2 w6 hown6 hb6 hg6; have HO6 := hide hown6; have HB6 := hide hb6; have HR6 := hide (row_grown ((HRN.out.drew).below ((Below.refl _ _).alloc (Nat.le_refl _) _)) hg6 (fun h => by have := HFAR.out _ h.symm; omega)); have q6 := row21 HR6.out; have l6 := HR6.out.lt; clear hown6 hb6 hg6)
            all_goals
              have HB7 := hide (HB5.out.trans ((((Below.refl W.heap.size w5).alloc hs5 (.cells #[.int .i64 s1, .int .i64 s2] 23)).drew).trans HB6.out))
              clear HB6 HR6 q6 l6 q0 q1 ql
              have hwr : IntKind.i64.wrap (s2 + 1) = s2 + 1 := IntWalk.i64_in _ (by omega)
              go_wp2_with fail
              go_roundw
              case rel => exact ⟨s2 + 1, n, pre ++ [(s1, s2)], by simp only [hwr], by omega, by omega, by omega, HXN.out, by simp; omega, by rw [Cs_append, List.length_append]; exact HO6.out, HB7.out⟩
              case measure => simp [intOf, hwr]; omega
          · have HF := hide (show pre = xs from by rw [HX.out, spansF_stop (by rw [hf]; omega), List.append_nil])
            have hpl2 : pre.length ≤ 1073741825 := by omega
            clear hf
            go_wp2_with fail
            with_reducible refine HNX.out.mono ?_
            rintro e w3 ⟨rfl, hb3⟩
            have HB3 := hide (HBW.out.trans (hb3.mono HBW.out.size))
            have HO3 := hide (own_keepB HO.out hb3)
            clear hb3
            go_wp2_with fail
            go_ret2
            exact ⟨_, rfl, by rw [← HF.out]; exact HO3.out, by rw [← HF.out]; exact hpl2, HB3.out⟩
        · have HF := hide (show pre = xs from by rw [HX.out, spansF_stop (fun h => hzb h.1), List.append_nil])
          have hpl2 : pre.length ≤ 1073741825 := by omega
          go_wp2_with fail
          go_ret2
          exact ⟨_, rfl, by rw [← HF.out]; exact HO.out, by rw [← HF.out]; exact hpl2, HBW.out⟩
end Go.Proofs.YtegnppmmcchmgaaDoor
