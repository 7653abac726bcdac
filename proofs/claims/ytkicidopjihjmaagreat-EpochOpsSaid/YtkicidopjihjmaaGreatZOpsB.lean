/-
  Part of a proof: ZOps says of what.
-/
import Derived.Deep.Cut
import Derived.Deep.RegionLaw
import Derived.Test.YtkicidopjihjmaaGreatZOpsA
set_option maxHeartbeats 16000000
set_option linter.unusedSimpArgs false
set_option linter.unusedVariables false
set_option maxRecDepth 20000
namespace Go.Proofs.YtkicidopjihjmaaGreat.Li
open Go Go.RowKit
def OwnO (w : World) (base : Nat) (e : TypeId) (sz : Nat) (v : Value) (n : Nat) (xs : List Value) : Prop :=
 xs.length = n * sz ∧ ((v = .slice none 0 0 ∧ n = 0) ∨ ∃ g o cap cur, v = .slice (some ⟨g, o, none⟩) n cap ∧ base ≤ g ∧ w.heap[g]? = some (.cells cur e (0, 0)) ∧ n ≤ cap ∧ cap ≤ maxLen ∧ o + cap * sz ≤ cur.size ∧ (cur.toList.drop o).take (n * sz) = xs)
section
variable {w w' : World} {base : Nat} {e : TypeId} {sz n : Nat} {v : Value} {xs : List Value}
theorem OwnO.of_own (h : w.ownsRow base e sz v n xs) : OwnO w base e sz v n xs := by
 refine ⟨h.1, ?_⟩
 rcases h.2 with h1 | ⟨g, cap, cur, hv, hg, hh, hn, hc, hs, ht⟩
 · exact .inl h1
 · exact .inr ⟨g, 0, cap, cur, hv, hg, hh, hn, hc, by omega, by simpa using ht⟩
theorem OwnO.form (h : OwnO w base e sz v n xs) : ∃ A c, v = .slice A n c ∧ n ≤ c ∧ c ≤ 9223372036854775807 := by
 rcases h.2 with ⟨rfl, rfl⟩ | ⟨g, o, cap, cur, rfl, _, _, hn, hc, _⟩
 · exact ⟨none, 0, rfl, Nat.le_refl _, by omega⟩
 · exact ⟨_, _, rfl, hn, by unfold maxLen at hc; omega⟩
theorem OwnO.lower (h : OwnO w base e sz v n xs) {b2 : Nat} (hb : b2 ≤ base) : OwnO w b2 e sz v n xs := by
 refine ⟨h.1, ?_⟩
 rcases h.2 with h1 | ⟨g, o, cap, cur, hv, hg, r⟩
 · exact .inl h1
 · exact .inr ⟨g, o, cap, cur, hv, by omega, r⟩
theorem OwnO.other (h : OwnO w base e sz v n xs) (hl : ∀ g, base ≤ g → g < w.heap.size → some g = v.ownBlock → w'.heap[g]? = w.heap[g]?) : OwnO w' base e sz v n xs := by
 refine ⟨h.1, ?_⟩
 rcases h.2 with h1 | ⟨g, o, cap, cur, rfl, hg, hh, r⟩
 · exact .inl h1
 · exact .inr ⟨g, o, cap, cur, rfl, hg, (hl g hg (Array.getElem?_eq_some_iff.1 hh).1 (by simp [Value.ownBlock])).trans hh, r⟩
theorem OwnO.keepB (h : OwnO w base e sz v n xs) (hb : Below w.heap.size w w') : OwnO w' base e sz v n xs := h.other fun g _ hl _ => hb.block g hl
theorem OwnO.rd {A : Option Addr} {c : Nat} (h : OwnO w base e sz (.slice A n c) n xs) : Rd w w.heap.size sz A n xs := by
 refine ⟨h.1, fun hn => ?_⟩
 rcases h.2 with ⟨h1, h2⟩ | ⟨g, o, cap, cur, hv, hg, hh, hnc, hcm, hs, ht⟩
 · omega
 ·
  injection hv with hA
  subst hA
  refine ⟨g, o, rfl, (Array.getElem?_eq_some_iff.1 hh).1, fun j u hu => ?_⟩
  unfold World.cell?
  simp only [hh]
  rw [← ht, List.getElem?_take] at hu
  split at hu
  · rw [List.getElem?_drop] at hu; simpa using hu
  · cases hu
theorem OwnO.lt (h : OwnO w base e sz v n xs) {g : Nat} (hg : some g = v.ownBlock) : base ≤ g ∧ g < w.heap.size := by
 rcases h.2 with ⟨rfl, _⟩ | ⟨g', o, cap, cur, rfl, hg', hh, _⟩
 · simp [Value.ownBlock] at hg
 ·
  simp [Value.ownBlock] at hg
  subst hg
  exact ⟨hg', (Array.getElem?_eq_some_iff.1 hh).1⟩
theorem OwnO.tail {g o cap k m : Nat} (h : OwnO w base e sz (.slice (some ⟨g, o, none⟩) n cap) n xs) (hk : k ≤ n) (hm : n ≤ m) (hmc : m ≤ cap) : OwnO w base e sz (.slice (some ⟨g, o + k * sz, none⟩) (n - k) (m - k)) (n - k) (xs.drop (k * sz)) := by
 have hks := Nat.mul_le_mul_right sz hk
 refine ⟨by rw [List.length_drop, h.1, Nat.sub_mul], .inr ?_⟩
 rcases h.2 with ⟨h1, h2⟩ | ⟨g', o', cap', cur, hv, hg, hh, hnc, hcm, hs, ht⟩
 · cases h1
 ·
  injection hv with h1 _ h2
  injection h1 with h1
  injection h1 with h1 h3
  subst h1; subst h2; subst h3
  have h5 := Nat.mul_le_mul_right sz hmc
  have h7 : (m - k) * sz + k * sz = m * sz := by rw [← Nat.add_mul]; congr 1; omega
  refine ⟨g, o + k * sz, m - k, cur, rfl, hg, hh, by omega, by omega, by omega, ?_⟩
  rw [← ht, List.drop_take, List.drop_drop, Nat.sub_mul]
end
section
variable {P : Program} (w : World)
theorem run_append_O (base : Nat) (t ty e : TypeId) (i : TypeInfo) (z : Value) (size bytes : Nat) (ht : P.underlying t = some (.slice e)) (hi : P.info? e = some i) (hz : i.zero = some z)
  (hsize : i.size = size) (hby : i.bytes = bytes) (hzs : z.cells.size = size) (hsz : 0 < size)
  (v : Value) (n : Nat) (xs : List Value) (hown : OwnO w base e size v n xs)
  (B : Nat) (A : Option Addr) (m c : Nat) (news : List Value) (hr : Rd w B size A m news) (h1 : ∀ u ∈ news, u.oneCell' = true)
  (h63 : n + m ≤ maxLen) (hbytes : (n + m) * bytes ≤ 140737488355328) (hbase : base ≤ w.heap.size) :
  ∃ v' w', (Builtin.append_ #[t, t] ty #[v, .slice A m c]).run P w = .ok v' w' ∧ OwnO w' base e size v' (n + m) (xs ++ news) ∧ w.grownBy w' v.ownBlock ∧
   (v'.ownBlock = v.ownBlock ∨ v'.ownBlock = some w.heap.size) := by
 rcases hown.2 with ⟨rfl, rfl⟩ | ⟨g, o, cap, cur, rfl, hbg, hg, hnc, hcm, hcs, htake⟩
 ·
  have hx : xs = [] := List.eq_nil_of_length_eq_zero (by simpa using hown.1)
  subst hx
  obtain ⟨v', w', h2, h3, h4, h5⟩ := run_append_any w base t ty e i z size bytes ht hi hz hsize hby hzs hsz _ 0 [] (World.ownsRow_nil w base e size) B A m c news hr h1 h63 hbytes hbase
  exact ⟨v', w', h2, OwnO.of_own h3, h4, h5⟩
 ·
  subst hsize
  subst hby
  rcases Nat.eq_zero_or_pos m with h0 | h0
  ·
   subst h0
   have hn : news = [] := hr.nil
   subst hn
   refine ⟨_, w, ?_, by simpa using hown, World.grownBy.refl w _, .inl rfl⟩
   cases A with
   | none => simp [Builtin.append_, run_underlying ht, sizeOf, typeInfo, hi, Builtin.lenOf, Builtin.firstCells, hnc, storeCells]
   | some a => simp [Builtin.append_, run_underlying ht, sizeOf, typeInfo, hi, Builtin.lenOf, Builtin.firstCells, hnc, storeCells, loadCells, loadCellsFrom]
  ·
   obtain ⟨b, off, hA, _, _⟩ := hr.2 h0
   subst hA
   have hnews := rd_cells hr h0
   have hl := hr.1
   have hlen : (xs ++ news).length = (n + m) * i.size := by rw [List.length_append, hown.1, hl, Nat.add_mul]
   by_cases hroom : n + m ≤ cap
   ·
    have hcap : (n + m) * i.size ≤ cap * i.size := Nat.mul_le_mul_right _ hroom
    have hnm : (n + m) * i.size = n * i.size + m * i.size := Nat.add_mul _ _ _
    have hfit : o + n * i.size + news.length ≤ cur.size := by rw [hl]; omega
    have hf := run_firstCells_some (P := P) w i.size m ⟨b, off, none⟩ m c news hl hnews
    have hst := run_storeCells_at P g (o + n * i.size) e news 0 cur w hg (by simpa using hfit) h1
    simp only [Nat.add_zero] at hst
    have hadd : (⟨g, o, none⟩ : Addr).add (n * i.size) = ⟨g, o + n * i.size, none⟩ := by unfold Addr.add; split <;> simp_all
    have hrun : (Builtin.append_ #[t, t] ty #[.slice (some ⟨g, o, none⟩) n cap, .slice (some ⟨b, off, none⟩) m c]).run P w =
      .ok (.slice (some ⟨g, o, none⟩) (n + m) cap) (w.setRow g (cur.toList.take (o + n * i.size) ++ news ++ cur.toList.drop (o + n * i.size + news.length)).toArray) := by
     simp [Builtin.append_, run_underlying ht, sizeOf, typeInfo, hi, Builtin.lenOf, hroom, hf, hadd, hst]
    refine ⟨_, _, hrun, ⟨hlen, .inr ⟨g, o, cap, _, rfl, hbg, setRow_heap w g cur _ e _ hg, hroom, hcm, ?_, ?_⟩⟩, ⟨rfl, rfl, rfl, by simp, fun k _ hk => setRow_other w g k _ (fun e => hk (by simp [Value.ownBlock, e]))⟩, .inl rfl⟩
    ·
     simp only [List.size_toArray, List.length_append, List.length_take, List.length_drop, Array.length_toList]
     omega
    ·
     have hd : (cur.toList.take (o + n * i.size) ++ news ++ cur.toList.drop (o + n * i.size + news.length)).drop o = xs ++ news ++ cur.toList.drop (o + n * i.size + news.length) := by
      rw [List.append_assoc, List.drop_append_of_le_length (by rw [List.length_take, Array.length_toList]; omega), List.drop_take, Nat.add_sub_cancel_left, htake, List.append_assoc]
     show ((cur.toList.take (o + n * i.size) ++ news ++ cur.toList.drop (o + n * i.size + news.length)).drop o).take ((n + m) * i.size) = xs ++ news
     rw [hd, ← hlen]
     exact List.take_left
   ·
    have hrd : ∀ j u, xs[j]? = some u → w.cell? ((⟨g, o, none⟩ : Addr).add j) = some u := by
     intro j u hu
     have hadd : (⟨g, o, none⟩ : Addr).add j = ⟨g, o + j, none⟩ := by unfold Addr.add; split <;> simp_all
     rw [hadd]
     unfold World.cell?
     simp only [hg]
     rw [← htake, List.getElem?_take] at hu
     split at hu
     · rw [List.getElem?_drop] at hu; simpa using hu
     · cases hu
    have hrun := run_append_grow (P := P) w t ty e i z ht hi hz ⟨g, o, none⟩ n cap xs hown.1 hrd ⟨b, off, none⟩ m c news hl hnews (by omega) (by simp only [maxLen] at h63; omega) (growslice_fits (by omega) hbytes)
    have hge := grownCap_ge w (n + m) cap e
    have hcm2 : grownCap w (n + m) cap e ≤ maxLen := grownCap_le_maxLen w (n + m) cap e h63
    refine ⟨_, _, hrun, ⟨hlen, .inr ⟨w.heap.size, 0, _, _, rfl, hbase, heap_alloc_new w.drew _, hge, hcm2, ?_, ?_⟩⟩, ⟨rfl, rfl, rfl, by simp, fun k hk _ => Below.heap_alloc w.drew _ k hk⟩, .inr rfl⟩
    ·
     simp only [Array.size_append, List.size_toArray, size_zeroCells, hzs, hown.1, hl, ← Nat.add_mul]
     have : (n + m + (grownCap w (n + m) cap e - (n + m))) = grownCap w (n + m) cap e := by omega
     rw [Nat.zero_add, this]
     exact Nat.le_refl _
    ·
     simp only [Array.toList_append, List.append_assoc, List.drop_zero]
     rw [← List.append_assoc, ← hlen]
     exact List.take_left
end
theorem below_of_grownO {w w' : World} {base : Nat} {e : TypeId} {size n : Nat} {v : Value} {xs : List Value} (hown : OwnO w base e size v n xs) (hg : w.grownBy w' v.ownBlock) (hbase : base ≤ w.heap.size) : Below base w w' :=
 (Below.refl base w).grown hg hbase fun k hk => (hown.lt hk.symm).1
section
variable {P : Program} {t e : TypeId} {size bytes : Nat} {z : Value} {ops : Array Oper} {rest : List Oper} {o : Oper} {a : Act} {Q : Exit → Act → World → Prop} {w : World}
theorem wp_appO (E : ElemOk P t e size bytes z) {K : Act → World → Prop} (s x : Operand) (ho : o.op = .call { callee := .builtin .append, args := #[s, x], argTypes := #[t, t] })
  {base n : Nat} {xs : List Value} {v : Value} (hs : a.eval s = v) (hown : OwnO w base e size v n xs)
  {B : Nat} {A : Option Addr} {m c : Nat} {news : List Value} (hx : a.eval x = .slice A m c) (hr : Rd w B size A m news) (h1 : ∀ u ∈ news, u.oneCell' = true)
  (hb : (n + m) * bytes ≤ 140737488355328) (hbase : base ≤ w.heap.size)
  (h : ∀ v' w', OwnO w' base e size v' (n + m) (xs ++ news) → Below base w w' → w.grownBy w' v.ownBlock → (v'.ownBlock = v.ownBlock ∨ v'.ownBlock = some w.heap.size) → K (a.put o.dst v') w') : o.wp P a w K Q := by
 obtain ⟨i, hi, hz, hsize, hby⟩ := info_parts E.info
 obtain ⟨v', w', hrun, h2, h3, h4⟩ := run_append_O (P := P) w base t o.type e i z size bytes E.ht hi hz hsize hby E.hzs E.hsz v n xs hown B A m c news hr h1 (E.room hb) hb hbase
 unfold Oper.wp execOp
 simp only [ho, resolve, invoke, builtin, Sem.run_bind, Sem.run_pure, Result.andThen_ok, List.map_toArray, List.map_cons, List.map_nil, hs, hx, hrun]
 exact h v' w' h2 (below_of_grownO hown h3 hbase) h3 h4
end
end Go.Proofs.YtkicidopjihjmaaGreat.Li
set_option maxRecDepth 20000
namespace Go.Proofs.YtkicidopjihjmaaGreat.Li
open Go Go.RowKit
attribute [local go_sem] via_cell via_frozen
theorem _root_.Go.Proofs.YtkicidopjihjmaaGreat.Rd.ent {w : World} {B m : Nat} {A : Option Addr} {xs : List Ent} (h : Rd w B 2 A m (Cs encE xs)) (hx : xs.length = m) {k : Nat} (hk : k < m) :
  ∃ b o, A = some ⟨b, o, none⟩ ∧ b < B ∧ w.cell? ⟨b, o + k * 2, none⟩ = some (.int .i64 (xs.getD k (0, 0)).1) ∧ w.cell? ⟨b, o + k * 2 + 1, none⟩ = some (.int .u64 (xs.getD k (0, 0)).2) := by
 subst hx
 obtain ⟨b, o, hA, hb, hc⟩ := h.elem encE_len hk
 have hg : xs.getD k (0, 0) = xs[k] := by rw [List.getD_eq_getElem?_getD, List.getElem?_eq_getElem hk]; rfl
 rw [hg]
 refine ⟨b, o, hA, hb, ?_, ?_⟩
 ·
  have := hc 0 _ (by omega) rfl
  simpa using this
 · exact hc 1 _ (by omega) rfl
theorem getD_mem {xs : List Ent} {k : Nat} (h : k < xs.length) : xs.getD k (0, 0) ∈ xs := by
 rw [List.getD_eq_getElem?_getD, List.getElem?_eq_getElem h]; exact List.getElem_mem _
theorem need_ok (k : Int) (W : World) : Calls Tryz.prog 154 #[.bool true, .int .i64 k] W fun e W' => e = .returned (.tuple #[]) ∧ W = W' := by
 go_enter Tryz.func154, Tryz.ntmps154
 go_wp2
 go_end0
 exact ⟨rfl, rfl⟩
theorem need_no (k : Int) (W : World) : Calls Tryz.prog 154 #[.bool false, .int .i64 k] W fun e W' => e = .panicked (errX k) ∧ W = W' := by
 go_enter Tryz.func154, Tryz.ntmps154
 go_wp2
 exact ⟨rfl, rfl, rfl⟩
def entV (x : Ent) : Value := .agg #[.int .i64 x.1, .int .u64 x.2]
theorem any_take_succ {p : Ent → Bool} {xs : List Ent} {k : Nat} (h : k < xs.length) : (xs.take (k + 1)).any p = ((xs.take k).any p || p (xs.getD k (0, 0))) := by
 rw [List.take_succ_eq_append_getElem h, List.any_append, List.getD_eq_getElem?_getD, List.getElem?_eq_getElem h]
 simp
theorem any_of_take {p : Ent → Bool} {xs : List Ent} {k : Nat} (h : (xs.take k).any p = true) : xs.any p = true := by
 obtain ⟨x, hx, hp⟩ := List.any_eq_true.1 h
 exact List.any_eq_true.2 ⟨x, List.mem_of_mem_take hx, hp⟩
def IdxRes (p : Ent → Bool) (xs : List Ent) (e : Ending) : Prop := ∃ i : Int, e = .returned (.int .i64 i) ∧ decide (0 ≤ i) = xs.any p
theorem indexF_any (B : Nat) (A : Option Addr) (c m gf : Nat) (lb : Array Value) (hg : ∀ args w, (callFunc gf args).run Tryz.prog w = .ok (.enter gf args) w) (p : Ent → Bool) (xs : List Ent) (W : World) (h : Rd W B 2 A m (Cs encE xs)) (hx : xs.length = m) (hm : m ≤ 4096) (hB : B ≤ W.heap.size)
  (HC : ∀ x ∈ xs, ∀ w, Below W.heap.size W w → Calls Tryz.prog gf (#[entV x] ++ lb) w fun e w' => e = .returned (.bool (p x)) ∧ Below w.heap.size w w') :
  Calls Tryz.prog 166 #[.slice A m c, .func (.func gf) #[] lb] W fun e W' => IdxRes p xs e ∧ Below W.heap.size W W' := by
 have HX := Hi hx
 have H := Hi h
 have HCH := Hi HC
 clear h hx HC
 go_enter Tryz.func166, Tryz.ntmps166
 go_wp2_with fail
 go_loopw [8] (fun i wr => ∃ k : Nat, k ≤ m ∧ i = .int .i64 k ∧ (xs.take k).any p = false ∧ Below W.heap.size W wr) (fun i _ => m - (intOf i).toNat)
 case atStart => exact ⟨0, Nat.zero_le _, rfl, rfl, Below.refl _ _⟩
 case round =>
  obtain ⟨k, hk, rfl, hno, hbw⟩ := hrel
  have HN := Hi hno
  have HBW := Hi hbw
  clear hno hbw
  by_cases hlt : k < m
  ·
   have hlx : k < xs.length := by rw [HX.out]; exact hlt
   obtain ⟨b, o, rfl, hb, d0, d1⟩ := (H.out.below (HBW.out.mono hB)).ent HX.out hlt
   have hbl : b < wr.heap.size := Nat.lt_of_lt_of_le hb (Nat.le_trans hB HBW.out.size)
   have hkm : (k : Int) < (m : Int) := by omega
   have HM := Hi (HCH.out (xs.getD k (0, 0)) (getD_mem hlx) wr HBW.out)
   have HT := Hi (any_take_succ (p := p) hlx)
   obtain ⟨x, hxx⟩ : ∃ x, xs.getD k (0, 0) = x := ⟨_, rfl⟩
   rw [hxx] at d0 d1 HM HT
   unfold entV at HM
   obtain ⟨q, hq⟩ : ∃ q, p x = q := ⟨_, rfl⟩
   rw [hq, HN.out] at HT
   rw [hq] at HM
   obtain ⟨x1, x2⟩ := x
   dsimp only at d0 d1 HM
   clear hxx hq hb
   go_wp2_with fail
   with_reducible refine HM.out.mono ?_
   rintro e w2 ⟨rfl, hb2⟩
   have HB2 := bt HBW hb2
   clear hb2
   cases q
   ·
    go_wp2_with fail
    go_roundw
    case rel => exact ⟨k + 1, by omega, by go_num, HT.out, HB2.out⟩
    case measure => simp [intOf]; omega
   ·
    have HF := Hi (show decide ((0 : Int) ≤ (k : Int)) = xs.any p from by rw [any_of_take HT.out]; simp)
    go_wp2_with fail
    go_ret
    exact ⟨⟨_, rfl, HF.out⟩, HB2.out⟩
  ·
   have HF := Hi (show decide ((0 : Int) ≤ -1) = xs.any p from by
    have := HN.out
    rw [List.take_of_length_le (by rw [HX.out]; omega)] at this
    rw [this]; rfl)
   go_wp2_with fail
   go_ret
   exact ⟨⟨_, rfl, HF.out⟩, HBW.out⟩
theorem contF_any (B : Nat) (A : Option Addr) (c m gf : Nat) (lb : Array Value) (hg : ∀ args w, (callFunc gf args).run Tryz.prog w = .ok (.enter gf args) w) (p : Ent → Bool) (xs : List Ent) (W : World) (h : Rd W B 2 A m (Cs encE xs)) (hx : xs.length = m) (hm : m ≤ 4096) (hB : B ≤ W.heap.size)
  (HC : ∀ x ∈ xs, ∀ w, Below W.heap.size W w → Calls Tryz.prog gf (#[entV x] ++ lb) w fun e w' => e = .returned (.bool (p x)) ∧ Below w.heap.size w w') :
  Calls Tryz.prog 162 #[.slice A m c, .func (.func gf) #[] lb] W fun e W' => e = .returned (.bool (xs.any p)) ∧ Below W.heap.size W W' := by
 have HI := Hi (indexF_any B A c m gf lb hg p xs W h hx hm hB HC)
 clear h hx HC
 go_enter Tryz.func162, Tryz.ntmps162
 go_wp2_with fail
 with_reducible refine HI.out.mono ?_
 rintro e w1 ⟨⟨i, rfl, hi⟩, hb⟩
 have HF := Hi hi
 have HB := Hi hb
 clear hi hb
 go_wp2_with fail
 go_ret
 exact ⟨ret_bool HF.out, HB.out⟩
theorem hasF_any (B : Nat) (A : Option Addr) (c m gf : Nat) (lb : Array Value) (hg : ∀ args w, (callFunc gf args).run Tryz.prog w = .ok (.enter gf args) w) (p : Ent → Bool) (xs : List Ent) (W : World) (h : Rd W B 2 A m (Cs encE xs)) (hx : xs.length = m) (hm : m ≤ 4096) (hB : B ≤ W.heap.size)
  (HC : ∀ x ∈ xs, ∀ w, Below W.heap.size W w → Calls Tryz.prog gf (#[entV x] ++ lb) w fun e w' => e = .returned (.bool (p x)) ∧ Below w.heap.size w w') :
  Calls Tryz.prog 155 #[.slice A m c, .func (.func gf) #[] lb] W fun e W' => e = .returned (.bool (xs.any p)) ∧ Below W.heap.size W W' := by
 have HI := Hi (contF_any B A c m gf lb hg p xs W h hx hm hB HC)
 clear h hx HC
 go_enter Tryz.func155, Tryz.ntmps155
 go_wp2_with fail
 with_reducible refine HI.out.mono ?_
 rintro e w1 ⟨rfl, hb⟩
 have HB := Hi hb
 clear hb
 go_wp2_with fail
 go_ret
 exact ⟨rfl, HB.out⟩
theorem entB_cases (s g : Int) : (entB (s, g)) = (decide (0 ≤ s) && (decide (s < 128) && decide (g ≤ 1099511627775))) := rfl
theorem entry_any (s g : Int) (hg : 0 ≤ g ∧ g < 18446744073709551616) (W : World) (r : Bool) (hr : entB (s, g) = r) : Calls Tryz.prog 93 #[.agg #[.int .i64 s, .int .u64 g]] W fun e W' => e = .returned (.bool r) ∧ Below W.heap.size W W' := by
 rw [entB_cases] at hr
 have HB := Hi (show Below W.heap.size W (W.alloc (.cells #[.int .i64 s, .int .u64 g] 41)) from (Below.refl _ _).alloc (Nat.le_refl _) _)
 by_cases h1 : 0 ≤ s
 ·
  have d1 : decide (0 ≤ s) = true := by simpa using h1
  by_cases h2 : s < 128
  ·
   have d2 : decide (s < 128) = true := by simpa using h2
   rw [d1, d2] at hr
   go_enter Tryz.func93, Tryz.ntmps93
   have HF := Hi (show (g / 1099511627776 == 0) = r from by
    rw [← hr]
    simp only [Bool.true_and]
    by_cases hh : g ≤ 1099511627775
    ·
     have : g / 1099511627776 = 0 := by omega
     simp [hh, this]
    ·
     have : g / 1099511627776 ≠ 0 := by omega
     simp [hh, this])
   clear hr hg
   go_wp2
   go_ret
   exact ⟨ret_bool HF.out, HB.out⟩
  ·
   have d2 : decide (s < 128) = false := by simpa using h2
   rw [d1, d2] at hr
   subst hr
   go_enter Tryz.func93, Tryz.ntmps93
   go_wp2
   go_ret
   exact ⟨rfl, HB.out⟩
 ·
  have d1 : decide (0 ≤ s) = false := by simpa using h1
  rw [d1] at hr
  subst hr
  go_enter Tryz.func93, Tryz.ntmps93
  go_wp2
  go_ret
  exact ⟨rfl, HB.out⟩
theorem refentry_any (s g : Int) (W : World) (r : Bool) (hr : entB (s, g) = r) : Calls Tryz.prog 72 #[.agg #[.int .i64 s, .int .u64 g]] W fun e W' => e = .returned (.bool r) ∧ Below W.heap.size W W' := by
 rw [entB_cases] at hr
 have HB := Hi (show Below W.heap.size W (W.alloc (.cells #[.int .i64 s, .int .u64 g] 41)) from (Below.refl _ _).alloc (Nat.le_refl _) _)
 by_cases h1 : 0 ≤ s
 ·
  have d1 : decide (0 ≤ s) = true := by simpa using h1
  by_cases h2 : s < 128
  ·
   have d2 : decide (s < 128) = true := by simpa using h2
   rw [d1, d2] at hr
   have HR := Hi (show decide (g ≤ 1099511627775) = r from by simpa using hr)
   clear hr
   go_enter Tryz.func72, Tryz.ntmps72
   go_wp2
   go_ret
   exact ⟨ret_bool HR.out, HB.out⟩
  ·
   have d2 : decide (s < 128) = false := by simpa using h2
   rw [d1, d2] at hr
   subst hr
   go_enter Tryz.func72, Tryz.ntmps72
   go_wp2
   go_ret
   exact ⟨rfl, HB.out⟩
 ·
  have d1 : decide (0 ≤ s) = false := by simpa using h1
  rw [d1] at hr
  subst hr
  go_enter Tryz.func72, Tryz.ntmps72
  go_wp2
  go_ret
  exact ⟨rfl, HB.out⟩
end Go.Proofs.YtkicidopjihjmaaGreat.Li
namespace Go.Proofs.YtkicidopjihjmaaGreat
open Go Go.RowKit
def roundEnd6 {α : Type} (n₀ : Nat) (K : Nat → Prop) (I : List α → World → Prop) (Ix : Code → List α → World → Prop) (xs : List α) (W : World) : Exit → Act → World → Prop
 | .normal, _, W' => KeepsOthers W W' ∧ Below n₀ W W' ∧ (∀ j, K j → j < W.heap.size → W'.heap[j]? = W.heap[j]?) ∧ I xs W'
 | .ret, _, W' => KeepsOthers W W' ∧ Below n₀ W W' ∧ Ix .ret xs W'
 | .exit id, _, W' => KeepsOthers W W' ∧ Below n₀ W W' ∧ Ix (.exit id) xs W'
 | .goto t, _, W' => KeepsOthers W W' ∧ Below n₀ W W' ∧ Ix (.goto t) xs W'
 | .panic _, _, _ => False
 | .outgrown, _, _ => False
def Seq6 {α : Type} (P : Program) (gf : Nat) (lb : Array Value) (encs : α → Array Value) (K : Nat → Prop) (S Sp Sn : List α → Prop) (ch : List PanicEntry) (N n1 n2 : Nat) (V : α → Prop) (w : World) : Prop :=
 ∀ (l : Nat) (J Jx : List α → World → Prop) (W : World), Below w.heap.size w W → W.heap.size = n1 → (∀ s A B, J s A → Below A.heap.size A B → J s B) → (∀ s A B, Jx s A → Below A.heap.size A B → Jx s B) →
  (∀ pre x W1, J pre W1 → pre.length < N → V x → n2 ≤ W1.heap.size → YieldAt Fence.wide 3 P l (encs x) W1 fun e W' =>
   (e = .returned (.bool true) ∧ J (pre ++ [x]) W' ∧ W1.heap.size ≤ W'.heap.size ∧ ∀ j, K j → j < W1.heap.size → W'.heap[j]? = W1.heap[j]?) ∨ (e = .returned (.bool false) ∧ Jx (pre ++ [x]) W')) →
  J [] W →
  Calls P gf (#[.func (.yield l) #[] #[]] ++ lb) W fun e W' =>
   (∃ v, e = .returned v ∧ ((∃ xs, S xs ∧ J xs W') ∨ (∃ pre, Sp pre ∧ Jx pre W'))) ∨ (e = .panicked ch ∧ ∃ pre, Sn pre ∧ J pre W')
theorem wp_range6 {α : Type} {P : Program} {g : Operand} {ps : Array Tmp} {assign body : Code} {Q : Exit → Act → World → Prop} {a : Act} {w : World}
  {gf : Nat} {lb : Array Value} (hg : a.eval g = .func (.func gf) #[] lb) (eg : ∀ args w, (callFunc gf args).run P w = .ok (.enter gf args) w)
  {encs : α → Array Value} {K : Nat → Prop} {S Sp Sn : List α → Prop} {ch : List PanicEntry} {N n2 : Nat} {V : α → Prop} {w0 : World} (hseq : Seq6 P gf lb encs K S Sp Sn ch N (w.heap.size + 2) n2 V w0)
  (n₀ : Nat) (hn : n₀ ≤ w.heap.size) (hK : ∀ j, K j → j ≠ w.heap.size + 1) (hb0 : Below w0.heap.size w0 w) (hps : ∀ x, (encs x).size = ps.size)
  (I : List α → World → Prop) (Ix : Code → List α → World → Prop) (hI : Stays I) (hIx : ∀ c, Stays (Ix c)) (hI4 : ∀ s A B, I s A → Below A.heap.size A B → I s B) (hIx4 : ∀ c s A B, Ix c s A → Below A.heap.size A B → Ix c s B) (h0 : I [] w) (Ax : Array Value → α → Act → World → Prop) (hAx : ∀ T a', Stays (fun x W => Ax T x a' W))
  (hassign : ∀ (l : Nat) (pre : List α) (x : α) (W : World) (R : Act → World → Prop), I pre W → Below n₀ w W → w.heap.size ≤ W.heap.size → pre.length < N → V x → n2 ≤ W.heap.size →
   (∀ a' W', KeepsOthers W W' → Below n₀ W W' → (∀ j, K j → j < W.heap.size → W'.heap[j]? = W.heap[j]?) → I pre W' → Ax a.tmps x a' W' → R a' W') →
   assign.wpIn (Fence.wide.inRound l) 3 P (Exit.then R (fun _ _ _ => False)) { tmps := (ps.zip (encs x)).foldl (fun t (p, v) => t.setIfInBounds p v) a.tmps, defers := [] } W)
  (hbody : ∀ (l : Nat) (pre : List α) (x : α) (a' : Act) (W : World), I pre W → Ax a.tmps x a' W → Below n₀ w W → w.heap.size ≤ W.heap.size → pre.length < N → V x → n2 ≤ W.heap.size → body.wpIn (Fence.wide.inRound l) 3 P (roundEnd6 n₀ K I Ix (pre ++ [x]) W) a' W)
  (hdone : ∀ (xs : List α) (W : World), S xs → I xs W → Below n₀ w W → w.heap.size < W.heap.size → W.heap[w.heap.size]? = some (.deferred (some [])) → Q .normal (marked a w.heap.size) W)
  (hstop : ∀ (c : Code) (pre : List α) (W : World), Sp pre → Ix c pre W → Below n₀ w W → w.heap.size < W.heap.size → W.heap[w.heap.size]? = some (.deferred (some [])) → c.wp P Q (marked a w.heap.size) W)
  (hpanic : ∀ (pre : List α) (W : World), Sn pre → I pre W → Below n₀ w W → w.heap.size < W.heap.size → W.heap[w.heap.size]? = some (.deferred (some [])) → Q (.panic ch) (marked a w.heap.size) W) :
  (Code.rangeFunc g ps assign body).wp P Q a w := by
 refine (wpIn_wide (n := 3)).1 (wpIn_rangeFunc fun fn _ => ?_)
 obtain ⟨mk, hmk⟩ : ∃ mk : LoopState → Option Code → Obj, mk = fun st pe => .loop { state := st, pending := pe, fn, tmps := a.tmps, params := ps, assign, body, defers := w.heap.size } := ⟨_, rfl⟩
 have hcl : ∀ st pe, (mk st pe).isCells = false := fun st pe => by rw [hmk]; rfl
 obtain ⟨W1, hW1⟩ : ∃ W1, (w.alloc (.deferred (some []))).alloc (mk .ready none) = W1 := ⟨_, rfl⟩
 have hbW : Below w.heap.size w W1 := by rw [← hW1]; exact ((Below.refl _ w).alloc (Nat.le_refl _) _).alloc (by simp) _
 have hL1 : W1.heap[w.heap.size + 1]? = some (mk .ready none) := by
  rw [← hW1]; have := World.alloc_heap_new (w.alloc (.deferred (some []))) (mk .ready none); rwa [World.size_alloc] at this
 have hD1 : W1.heap[w.heap.size]? = some (.deferred (some [])) := by rw [← hW1]; exact (Below.heap_alloc _ _ _ (by simp)).trans (World.alloc_heap_new w _)
 -- what is kept beside the invariant: the loop's record, the block of deferred calls
 let B (st : LoopState) (pe : Option Code) (W : World) : Prop := Below n₀ w W ∧ w.heap.size + 1 < W.heap.size ∧ W.heap[w.heap.size + 1]? = some (mk st pe) ∧ W.heap[w.heap.size]? = some (.deferred (some []))
 have hs1 : W1.heap.size = w.heap.size + 2 := by rw [← hW1]; simp
 have hB : ∀ {st pe} {A C : World}, B st pe A → Below (w.heap.size + 2) A C → B st pe C := fun {st pe A C} h hb =>
  ⟨h.1.trans (hb.mono (by omega)), Nat.lt_of_lt_of_le h.2.1 hb.size, (hb.block _ (by omega)).trans h.2.2.1, (hb.block _ (by omega)).trans h.2.2.2⟩
 have hput : ∀ {st pe st' pe'} {A : World}, B st pe A → B st' pe' (A.putObj (w.heap.size + 1) (mk st' pe')) := fun {st pe st' pe' A} h =>
  ⟨h.1.trans (below_putObj (o := mk st pe) _ (by omega)), by simpa using h.2.1, World.putObj_heap_same h.2.1, (World.putObj_heap_other (by omega)).trans h.2.2.2⟩
 have hIp : ∀ {s st pe A} (o' : Obj), I s A → B st pe A → I s (A.putObj (w.heap.size + 1) o') := fun o' hi h => hI _ _ _ hi (CellsLie.putObj o' h.2.2.1 (hcl _ _))
 have hIxp : ∀ {c s st pe A} (o' : Obj), Ix c s A → B st pe A → Ix c s (A.putObj (w.heap.size + 1) o') := fun o' hi h => hIx _ _ _ _ hi (CellsLie.putObj o' h.2.2.1 (hcl _ _))
 have hKp : ∀ {A : World} (o' : Obj) j, K j → (A.putObj (w.heap.size + 1) o').heap[j]? = A.heap[j]? := fun o' j hj => World.putObj_heap_other (by have := hK j hj; omega)
 refine ⟨w.heap.size + 1, [{ target := .collected w.heap.size, args := #[] }], W1, { target := .fn (.func gf) lb, args := #[.func (.yield (w.heap.size + 1)) #[] #[]] }, W1, gf,
  #[.func (.yield (w.heap.size + 1)) #[] #[]] ++ lb, W1, ?_, ?_, ?_, ?_, fun h => (by cases h), callsIn_wide.2 ?_⟩
 · rw [← hW1, hmk]; exact run_enterLoop_outer _ _ _ _ _
 · simp only [resolve, hg]; simp [go_sem]
 · intro f' hf'; simp [Target.leads] at hf'; subst hf'; trivial
 · simp [invoke, go_sem, eg]
 refine (hseq (w.heap.size + 1) (fun pre W => I pre W ∧ B .ready none W) (fun pre W => ∃ c, Ix c pre W ∧ B .done (some c) W) W1 (hb0.trans (hbW.mono hb0.size)) hs1
  (fun s A C h hb => ⟨hI4 _ _ _ h.1 hb, hB h.2 (hb.mono (by have := h.2.2.1; omega))⟩) (fun s A C h hb => by obtain ⟨c, h1, h2⟩ := h; exact ⟨c, hIx4 c _ _ _ h1 hb, hB h2 (hb.mono (by have := h2.2.1; omega))⟩)
  ?_ ⟨hI _ _ _ h0 (CellsLie.of_below hbW), hbW.mono hn, by rw [← hW1]; simp, hL1, hD1⟩).mono ?_
 ·
  rintro pre x W ⟨hi, hb⟩ hlen hV hn2
  have hy := run_yield (P := P) (args := encs x) (by rw [hb.2.2.1, hmk]) (hps x)
  refine ⟨fn, _, assign, body, hy, roundIn_of_wpIn trivial (hassign _ pre x W _ hi hb.1 (by have := hb.2.1; omega) hlen hV hn2 fun a' V hkV hbV hKV hiV haV => ?_)⟩
  have hbv : B .ready none V := ⟨hb.1.trans hbV, Nat.lt_of_lt_of_le hb.2.1 hkV.size, hkV.same _ _ hb.2.2.1 (hcl _ _), hkV.same _ _ hb.2.2.2 rfl⟩
  refine ⟨_, run_beginRound (by rw [hbv.2.2.1, hmk]) rfl, ?_⟩
  have hbb : B .busy none (V.putObj (w.heap.size + 1) (mk .busy none)) := hput hbv
  have hbo := hbody (w.heap.size + 1) pre x a' (V.putObj (w.heap.size + 1) (mk .busy none)) (hIp _ hiV hbv) (hAx _ a' _ _ _ haV (CellsLie.putObj _ hbv.2.2.1 (hcl _ _))) hbb.1 (by have := hbb.2.1; omega) hlen hV (by have := hkV.size; simp; omega)
  have hbo2 := hbo
  rw [hmk] at hbo2
  refine wpIn_mono hbo2 ?_
  have fin : ∀ (jump : Option Code) (W3 : World), KeepsOthers (V.putObj (w.heap.size + 1) (mk .busy none)) W3 → Below n₀ (V.putObj (w.heap.size + 1) (mk .busy none)) W3 →
    B .busy none W3 ∧ (Instr.endRound (w.heap.size + 1) jump).run P W3 = .ok (.bool jump.isNone) (W3.putObj (w.heap.size + 1) (mk (if jump.isNone then .ready else .done) jump)) := fun jump W3 hk hbl => by
   have h3 : W3.heap[w.heap.size + 1]? = some (mk .busy none) := hk.same _ _ hbb.2.2.1 (hcl _ _)
   refine ⟨⟨hbb.1.trans hbl, Nat.lt_of_lt_of_le hbb.2.1 hk.size, h3, hk.same _ _ hbb.2.2.2 rfl⟩, ?_⟩
   rw [hmk] at h3 ⊢
   exact run_endRound (P := P) jump h3
  rw [hmk] at fin
  rintro e a3 W3 hp
  cases e with
  | normal =>
   obtain ⟨hk3, hbl3, hkk, hi3⟩ := hp
   obtain ⟨hb3, hr⟩ := fin none W3 hk3 hbl3
   refine ⟨_, _, hr, .inl ⟨rfl, ⟨by have := hIp (mk .ready none) hi3 hb3; rw [hmk] at this; exact this, by have := hput (st' := .ready) (pe' := none) hb3; rw [hmk] at this; exact this⟩, by have h1 := hkV.size; have h2 := hk3.size; simp at h2 ⊢; omega, fun j hj hl => ?_⟩⟩
   exact (hKp _ j hj).trans ((hkk j hj (by have := hkV.size; simp; omega)).trans ((hKp _ j hj).trans (hKV j hj hl)))
  | ret =>
   obtain ⟨hk3, hbl3, hi3⟩ := hp
   obtain ⟨hb3, hr⟩ := fin (some .ret) W3 hk3 hbl3
   exact ⟨_, _, hr, .inr ⟨rfl, .ret, by have := hIxp (mk .done (some .ret)) hi3 hb3; rw [hmk] at this; exact this, by have := hput (st' := .done) (pe' := some .ret) hb3; rw [hmk] at this; exact this⟩⟩
  | exit id =>
   obtain ⟨hk3, hbl3, hi3⟩ := hp
   obtain ⟨hb3, hr⟩ := fin (some (.exit id)) W3 hk3 hbl3
   exact ⟨_, _, hr, .inr ⟨rfl, .exit id, by have := hIxp (mk .done (some (.exit id))) hi3 hb3; rw [hmk] at this; exact this, by have := hput (st' := .done) (pe' := some (.exit id)) hb3; rw [hmk] at this; exact this⟩⟩
  | goto t =>
   obtain ⟨hk3, hbl3, hi3⟩ := hp
   obtain ⟨hb3, hr⟩ := fin (some (.goto t)) W3 hk3 hbl3
   exact ⟨_, _, hr, .inr ⟨rfl, .goto t, by have := hIxp (mk .done (some (.goto t))) hi3 hb3; rw [hmk] at this; exact this, by have := hput (st' := .done) (pe' := some (.goto t)) hb3; rw [hmk] at this; exact this⟩⟩
  | panic _ => exact hp.elim
  | outgrown => exact hp.elim
 ·
  rintro e W2 (⟨v, rfl, (⟨xs, hS, hi, hb⟩ | ⟨pre, hS, c, hi, hb⟩)⟩ | ⟨rfl, pre, hS, hi, hb⟩)
  ·
   have hend := run_endLoop (P := P) (w := W2) (l := w.heap.size + 1) (by rw [hb.2.2.1, hmk]) (by simp)
   have hb' := hput (st' := .exhausted) (pe' := none) hb
   have hi' := hIp (mk .exhausted none) hi hb
   rw [hmk] at hb' hi'
   exact ⟨none, _, hend, hdone xs _ hS hi' hb'.1 (by have := hb.2.1; simp; omega) hb'.2.2.2⟩
  ·
   have hend := run_endLoop (P := P) (w := W2) (l := w.heap.size + 1) (by rw [hb.2.2.1, hmk]) (by simp)
   have hb' := hput (st' := .exhausted) (pe' := some c) hb
   have hi' := hIxp (mk .exhausted (some c)) hi hb
   rw [hmk] at hb' hi'
   exact ⟨some c, _, hend, wpIn_wide.2 (hstop c pre _ hS hi' hb'.1 (by have := hb.2.1; simp; omega) hb'.2.2.2)⟩
  · exact hpanic pre _ hS hi hb.1 (by have := hb.2.1; omega) hb.2.2.2
end Go.Proofs.YtkicidopjihjmaaGreat
set_option maxRecDepth 20000
namespace Go.Proofs.YtkicidopjihjmaaGreat.Li
open Go Go.RowKit
attribute [local go_sem] via_cell via_frozen
abbrev limC (E : Nat) (A : Nat → Option Addr) (n c : Nat → Nat) : Array Value := #[.int .u64 (E : Int), .slice (A 0) (n 0) (c 0), .slice (A 1) (n 1) (c 1), .slice (A 2) (n 2) (c 2)]
theorem limC_at (E : Nat) (A : Nat → Option Addr) (n c : Nat → Nat) {k : Nat} (hk : k < 3) : (limC E A n c)[1 + k]? = some (.slice (A k) (n k) (c k)) := by
 match k, hk with
 | 0, _ => rfl
 | 1, _ => rfl
 | 2, _ => rfl
structure LimRd (w : World) (B : Nat) (A : Nat → Option Addr) (n : Nat → Nat) (r : Nat → List Ent) : Prop where
 rd : ∀ k, k < 3 → Rd w B 2 (A k) (n k) (Cs encE (r k))
 len : ∀ k, k < 3 → (r k).length = n k
theorem LimRd.keep {w w' : World} {B : Nat} {A : Nat → Option Addr} {n : Nat → Nat} {r : Nat → List Ent} (h : LimRd w B A n r) (hk : ∀ j, j < B → w'.heap[j]? = w.heap[j]?) : LimRd w' B A n r :=
 ⟨fun k hk3 => (h.rd k hk3).keep (fun p hp => cell_of_heap (hk _ hp)), h.len⟩
theorem LimRd.below {w w' : World} {B : Nat} {A : Nat → Option Addr} {n : Nat → Nat} {r : Nat → List Ent} (h : LimRd w B A n r) (hb : Below B w w') : LimRd w' B A n r := h.keep (fun j hj => hb.block j hj)
theorem LimRd.more {w : World} {B B' : Nat} {A : Nat → Option Addr} {n : Nat → Nat} {r : Nat → List Ent} (h : LimRd w B A n r) (hB : B ≤ B') : LimRd w B' A n r := ⟨fun k hk => (h.rd k hk).more hB, h.len⟩
theorem row_any (g E ago : Nat) (u0 u1 u2 : Value) (ha : ago < 3) (hE : E ≤ LAST) (W : World) (h : RowAt W g 160 #[.int .u64 (E : Int), u0, u1, u2]) :
  Calls Tryz.prog 124 #[.pointer (some ⟨g, 0, none⟩), .int .u64 (ago : Int)] W fun e W' => e = .returned (.pointer (some ⟨g, 1 + rowN E ago, none⟩)) ∧ Below W.heap.size W W' := by
 have c0 := cl h 0
 have cl := h.lt
 have hE2 : (E : Int) ≤ 4611686018427387904 := by unfold LAST at hE; omega
 have hE0 : (0 : Int) ≤ (E : Int) := by omega
 have ha2 : (ago : Int) < 3 := by omega
 have hA0 : (0 : Int) ≤ (ago : Int) := by omega
 have hw1 : IntKind.u64.wrap ((E : Int) + 3) = (E : Int) + 3 := IntWalk.u64_in _ (by omega)
 have hw2 : IntKind.u64.wrap ((E : Int) + 3 - (ago : Int)) = (E : Int) + 3 - (ago : Int) := IntWalk.u64_in _ (by omega)
 clear h hE ha
 go_enter Tryz.func124, Tryz.ntmps124
 go_wp2_with fail
 go_quiet (fail)
 have HBN := Hi (below_drewN (Below.refl W.heap.size W) nq)
 go_wp2_with fail
 go_ret
 exact ⟨rfl, HBN.out⟩
theorem each_any (E : Nat) (A : Nat → Option Addr) (n c : Nat → Nat) (W : World) :
  Calls Tryz.prog 92 #[.agg (limC E A n c)] W fun e W' => e = .returned (.func (.func 123) #[] #[.pointer (some ⟨W.heap.size, 0, none⟩)]) ∧
   RowAt W' W.heap.size 32 (limC E A n c) ∧ Below W.heap.size W W' := by
 have H1 := Hi (RowAt.new W 32 (limC E A n c))
 go_enter Tryz.func92, Tryz.ntmps92
 go_wp2
 go_ret
 exact ⟨rfl, H1.out, (Below.refl _ _).alloc (Nat.le_refl _) _⟩
def encP (p : Nat × Ent) : Array Value := #[.int .u64 (p.1 : Int), .agg #[.int .i64 p.2.1, .int .u64 p.2.2]]
def preL (l : Lim) : Nat → List (Nat × Ent)
 | 0 => tag 2 (l.at 2) ++ (tag 1 (l.at 1) ++ tag 0 (l.at 0))
 | 1 => tag 2 (l.at 2) ++ tag 1 (l.at 1)
 | 2 => tag 2 (l.at 2)
 | _ => []
theorem preL_next (l : Lim) {a : Nat} (ha : a < 3) : preL l a = preL l (a + 1) ++ tag a (l.at a) := by
 match a, ha with
 | 0, _ => simp [preL]
 | 1, _ => rfl
 | 2, _ => rfl
theorem preL_rest (l : Lim) {a : Nat} (ha : a < 3) : ∃ r, l.each = preL l a ++ r := by
 unfold Lim.each
 match a, ha with
 | 0, _ => exact ⟨[], by simp [preL]⟩
 | 1, _ => exact ⟨tag 0 (l.at 0), by simp [preL]⟩
 | 2, _ => exact ⟨tag 1 (l.at 1) ++ tag 0 (l.at 0), rfl⟩
theorem tag_take (a k : Nat) (xs : List Ent) (hk : k < xs.length) : tag a (xs.take (k + 1)) = tag a (xs.take k) ++ [(a, xs.getD k (0, 0))] := by
 unfold tag
 rw [List.take_succ_eq_append_getElem hk, List.map_append, List.getD_eq_getElem?_getD, List.getElem?_eq_getElem hk]
 rfl
theorem each_split (l : Lim) {a k : Nat} (ha : a < 3) (hk : k < (l.at a).length) : ∃ r, l.each = (preL l (a + 1) ++ tag a ((l.at a).take k)) ++ ((a, (l.at a).getD k (0, 0)) :: r) := by
 obtain ⟨r, hr⟩ := preL_rest l ha
 have h1 : tag a (l.at a) = tag a ((l.at a).take (k + 1)) ++ tag a ((l.at a).drop (k + 1)) := by
  unfold tag; rw [← List.map_append, List.take_append_drop]
 rw [preL_next l ha, h1, tag_take a k _ hk] at hr
 exact ⟨tag a ((l.at a).drop (k + 1)) ++ r, by rw [hr]; simp⟩
theorem each_seq (B gp n1 : Nat) (K : Nat → Prop) (A : Nat → Option Addr) (n c : Nat → Nat) (l : Lim) (w : World) (hk : RowAt w gp 32 (limC l.E A n c)) (hr : LimRd w B A n l.r) (hE : l.E ≤ LAST) (hB : B ≤ w.heap.size) (hm : ∀ k, k < 3 → n k ≤ 4096)
  (hKB : ∀ j, j < B → K j) (hKn : K n1) :
  Seq6 Tryz.prog 123 #[.pointer (some ⟨gp, 0, none⟩)] encP K (fun ys => ys = l.each) (fun pre => ∃ r, pre ++ r = l.each) (fun _ => False) [] l.each.length n1 (n1 + 1) (fun x => x ∈ l.each) w := by
 intro lo J Jx W hbW hn1 hJ hJx hY h0
 have HR := Hi (hr.below (hbW.mono hB))
 have hrow := hk.below hbW
 have kc0 := cl hrow 0
 have kc1 := cl hrow 1
 have kc2 := cl hrow 2
 have kc3 := cl hrow 3
 have hkl := hrow.lt
 have hszW : B ≤ W.heap.size := Nat.le_trans hB hbW.size
 have HJ := Hi hJ
 have HY := Hi hY
 have H0 := Hi h0
 have HE := Hi hE
 have HM := Hi hm
 have HKB := Hi hKB
 have HKN := Hi (show K W.heap.size from by rw [hn1]; exact hKn)
 have HN1 := Hi hn1
 have HBX := Hi (RowAt.new W 160 (limC l.E A n c))
 have HBA := Hi (show Below W.heap.size W (W.alloc (.cells (limC l.E A n c) 160)) from (Below.refl _ _).alloc (Nat.le_refl _) _)
 clear hr hk hJ hJx hY h0 hKB hKn hn1 hE hm hrow
 refine (callsIn_wide (n := 4)).1 (callsIn_of_wp Tryz.func123 rfl trivial ?_ rfl)
 simp only [Tryz.ntmps123, List.size_toArray, List.length_cons, List.length_nil, Nat.reduceAdd, Nat.reduceSub, Array.replicate_succ, Array.replicate_zero, List.push_toArray, List.append_toArray, List.nil_append, List.cons_append]
 refine wpIn_wide.2 ?_
 go_wp2_with fail
 have HJ0 := Hi (HJ.out _ _ _ H0.out HBA.out)
 dsimp only [limC] at HBX HBA HJ0
 generalize W.alloc _ = wX at *
 have hXs := HBX.out.lt
 go_loopw [4] (fun i wr => ∃ (a : Nat), a ≤ 3 ∧ i = .int .u64 (a : Int) ∧ J (preL l a) wr ∧ RowAt wr W.heap.size 160 (limC l.E A n c) ∧ (∀ j, j < B → wr.heap[j]? = W.heap[j]?)) (fun i _ => (intOf i).toNat)
 case atStart => exact ⟨3, Nat.le_refl _, rfl, HJ0.out, HBX.out, fun j hj => HBA.out.block j (Nat.lt_of_lt_of_le hj hszW)⟩
 case round =>
  obtain ⟨a, ha, rfl, hj, hbox, hkeep⟩ := hrel
  have HJk := Hi hj
  have HBXr := Hi hbox
  have HKP := Hi hkeep
  clear hj hbox hkeep
  match a, ha with
  | 0, _ =>
   have HF := Hi (show preL l 0 = l.each from rfl)
   go_wp2_with fail
   go_end0
   exact .inl ⟨_, rfl, .inl ⟨_, HF.out, HJk.out⟩⟩
  | a + 1, ha =>
   have ha3 : a < 3 := by omega
   have hbl := HBXr.out.lt
   have hai : (a : Int) < 3 := by omega
   have ha0 : (0 : Int) ≤ (a : Int) := by omega
   have hcast : ((a + 1 : Nat) : Int) = (a : Int) + 1 := by omega
   rw [hcast]
   have hgt : decide ((0 : Int) < (a : Int) + 1) = true := by first | (simp; done) | (simp; omega)
   have HRC := Hi (row_any W.heap.size l.E a (.slice (A 0) (n 0) (c 0)) (.slice (A 1) (n 1) (c 1)) (.slice (A 2) (n 2) (c 2)) ha3 HE.out wr HBXr.out)
   clear hcast
   go_wp2_with fail
   with_reducible refine HRC.out.mono ?_
   rintro e w1 ⟨rfl, hb1⟩
   have hk3 := rowN_lt l.E a
   have HBX1 := Hi (HBXr.out.below hb1)
   have hc1 := (HBX1.out.cell (1 + rowN l.E a)).trans (limC_at l.E A n c hk3)
   have hl1 := HBX1.out.lt
   have HJ1 := Hi (HJ.out _ _ _ HJk.out hb1)
   have HKP1 := Hi (fun j (hj : j < B) => (hb1.block j (by omega)).trans (HKP.out j hj))
   have HRD := HR.out.rd _ hk3
   have HLN := HR.out.len _ hk3
   have hM4 := HM.out _ hk3
   have HAT := Hi (show l.at a = l.r (rowN l.E a) from rfl)
   clear hb1 HRC
   generalize rowN l.E a = kk at *
   obtain ⟨AA, hAA⟩ : ∃ AA, A kk = AA := ⟨_, rfl⟩
   obtain ⟨m, hmm⟩ : ∃ m, n kk = m := ⟨_, rfl⟩
   obtain ⟨cc, hcc⟩ : ∃ cc, c kk = cc := ⟨_, rfl⟩
   obtain ⟨xs, hxs⟩ : ∃ xs, l.r kk = xs := ⟨_, rfl⟩
   rw [hAA, hmm, hxs] at HRD
   rw [hmm, hxs] at HLN
   rw [hmm] at hM4
   rw [hAA, hmm, hcc] at hc1
   rw [hxs] at HAT
   have HRDX := Hi HRD
   have HLNX := Hi HLN
   clear hAA hmm hcc hxs HRD HLN
   go_wp2_with fail
   go_loopw [21] (fun i wr2 => ∃ (k : Nat), k ≤ m ∧ i = .int .i64 (k : Int) ∧ J (preL l (a + 1) ++ tag a (xs.take k)) wr2 ∧ RowAt wr2 W.heap.size 160 (limC l.E A n c) ∧ (∀ j, j < B → wr2.heap[j]? = W.heap[j]?)) (fun i _ => m - (intOf i).toNat)
   case atStart => exact ⟨0, Nat.zero_le _, rfl, by simpa [tag] using HJ1.out, HBX1.out, HKP1.out⟩
   case round =>
    obtain ⟨k, hk, rfl, hj, hbox, hkeep⟩ := hrel
    have HJk := Hi hj
    have HBX2 := Hi hbox
    have HKP2 := Hi hkeep
    clear hj hbox hkeep
    by_cases hlt : k < m
    ·
     have hlx : k < xs.length := by rw [HLNX.out]; exact hlt
     obtain ⟨b, o, rfl, hb, d0, d1⟩ := (HRDX.out.keep (fun p hp => cell_of_heap (HKP2.out _ hp))).ent HLNX.out hlt
     have hbw : b < wr.heap.size := Nat.lt_of_lt_of_le hb (by have := HBX2.out.lt; omega)
     have hkm : (k : Int) < (m : Int) := by omega
     obtain ⟨rest, hsp⟩ := each_split l ha3 (k := k) (by rw [HAT.out]; exact hlx)
     rw [HAT.out] at hsp
     have HSP := Hi hsp
     have HTK := Hi (tag_take a k xs hlx)
     obtain ⟨x, hxx⟩ : ∃ x, xs.getD k (0, 0) = x := ⟨_, rfl⟩
     rw [hxx] at d0 d1 HSP HTK
     obtain ⟨s, g⟩ := x
     dsimp only at d0 d1
     clear hxx hsp hb
     have HBN := Hi (show Below wr.heap.size wr (wr.alloc (.cells #[.int .i64 s, .int .u64 g] 41)) from (Below.refl _ _).alloc (Nat.le_refl _) _)
     have HJ2 := Hi (HJ.out _ _ _ HJk.out HBN.out)
     have HBX3 := Hi (HBX2.out.below HBN.out)
     have HRN := Hi (RowAt.new wr 41 #[.int .i64 s, .int .u64 g])
     have hBwr : B ≤ wr.heap.size := by have := HBX2.out.lt; omega
     have HKP3 := Hi (fun j (hj : j < B) => (HBN.out.block j (Nat.lt_of_lt_of_le hj hBwr)).trans (HKP2.out j hj))
     obtain ⟨fn, tmps, assign, body, hy, hR⟩ := HY.out _ (a, (s, g)) _ HJ2.out (by rw [HSP.out]; simp) (by rw [HSP.out]; simp) (by have h1 := HN1.out; have h2 := HBX3.out.lt; omega)
     dsimp only [encP] at hy
     have HRR := Hi hR
     clear hR
     go_upto_region 7 with (fail)
     generalize wr.alloc _ = w2 at *
     have e0 := row20 HRN.out
     have e1 := row21 HRN.out
     have hgl := HRN.out.lt
     refine (wpIn_wide (n := 4)).1 ?_
     gi_wp2
     refine HRR.out.mono ?_
     rintro e W3 (⟨rfl, hJ3, hz3, hk3⟩ | ⟨rfl, hJx3⟩)
     ·
      have HJ3 := Hi (show J (preL l (a + 1) ++ tag a (xs.take (k + 1))) W3 from by rw [HTK.out, ← List.append_assoc]; exact hJ3)
      have HKP4 := Hi (fun j (hj : j < B) => (hk3 j (HKB.out j hj) (by omega)).trans (HKP3.out j hj))
      have HBX4 := Hi (show RowAt W3 W.heap.size 160 (limC l.E A n c) from (hk3 _ HKN.out HBX3.out.lt).trans HBX3.out)
      clear hJ3 hk3 hz3
      gi_wp2
      go_wp2_with fail
      go_roundw
      case rel => exact ⟨k + 1, by omega, by go_num, HJ3.out, HBX4.out, HKP4.out⟩
      case measure => simp [intOf]; omega
     ·
      have HJ4 := Hi hJx3
      have HF := Hi (show ∃ r, (preL l (a + 1) ++ tag a (xs.take k) ++ [(a, (s, g))]) ++ r = l.each from ⟨rest, by rw [HSP.out]; simp⟩)
      clear hJx3
      gi_wp2
      go_wp2_with fail
      refine bodyPost_ret (results_none rfl _ _ _) rfl ?_
      exact .inl ⟨_, rfl, .inr ⟨_, HF.out, HJ4.out⟩⟩
    ·
     obtain rfl : k = m := by omega
     have HJ3 := Hi (show J (preL l a) wr from by
      rw [preL_next l ha3, HAT.out]
      have := HJk.out
      rwa [List.take_of_length_le (by rw [HLNX.out]; exact Nat.le_refl _)] at this)
     go_wp2_with fail
     go_roundw
     case rel => exact ⟨a, by omega, by first | rfl | go_num, HJ3.out, HBX2.out, HKP2.out⟩
     case measure => first | (simp [intOf]; done) | (simp [intOf]; omega)
end Go.Proofs.YtkicidopjihjmaaGreat.Li
set_option maxRecDepth 20000
namespace Go.Proofs.YtkicidopjihjmaaGreat.Li
open Go Go.RowKit
attribute [local go_sem] via_cell via_frozen
attribute [local go_sem] Oper.semAt_some
def metC (m : List Int) : Array Value := ((List.range 128).map (fun (s : Nat) => Value.bool (decide ((s : Int) ∈ m)))).toArray
theorem metC_at (m : List Int) {s : Nat} (h : s < 128) : (metC m)[s]? = some (.bool (decide ((s : Int) ∈ m))) := by
 unfold metC
 rw [List.getElem?_toArray, List.getElem?_map, List.getElem?_range h]
 rfl
theorem metC_size (m : List Int) : (metC m).size = 128 := by simp [metC]
theorem metC_set (m : List Int) {s : Nat} (h : s < 128) : (metC m).setIfInBounds s (.bool true) = metC ((s : Int) :: m) := by
 apply Array.ext_getElem?
 intro i
 rw [Array.getElem?_setIfInBounds]
 by_cases hi : i < 128
 ·
  rw [metC_at _ hi]
  by_cases hs : s = i
  ·
   subst hs
   rw [if_pos rfl, if_pos (by rw [metC_size]; exact h)]
   rw [metC_at _ h]
   simp
  ·
   rw [if_neg hs, metC_at _ hi]
   have : ((i : Int) ∈ (s : Int) :: m) ↔ ((i : Int) ∈ m) := by
    rw [List.mem_cons]
    constructor
    ·
     rintro (h | h)
     · omega
     · exact h
    · exact .inr
   simp only [this]
 · rw [Array.getElem?_eq_none (by rw [metC_size]; omega), if_neg (by omega), Array.getElem?_eq_none (by rw [metC_size]; omega)]
@[local go_sem] theorem zero_arr (w : World) : (zeroValue 133).run Tryz.prog w = .ok (.agg (metC [])) w := by kernel_rfl
@[local go_sem] theorem zc_arr : Tryz.zeroCells133 = metC [] := by kernel_rfl
theorem in_round {f : FuncId} {args : Array Value} {w : World} {R : Ending → World → Prop} (n lo : Nat) (h : Calls Tryz.prog f args w R) : CallsIn (Fence.wide.inRound lo) n Tryz.prog f args w R := CallsIn.inRound lo (callsIn_wide.2 h)
structure CkI (g : Nat) (L : Array Value) (E : Nat) (pre : List (Nat × Ent)) (W : World) : Prop where
 ok : okP E pre [] = true
 lim : RowAt W g 32 L
 err : RowAt W (g + 1) 44 #[.int .i64 0]
 met : RowAt W (g + 1 + 1) 133 (metC (metOf pre))
structure CkX (g : Nat) (E : Nat) (c : Code) (pre : List (Nat × Ent)) (W : World) : Prop where
 code : c = .ret
 no : okP E pre [] = false
 err : RowAt W (g + 1) 44 #[.int .i64 240]
theorem CkI.stays (g : Nat) (L : Array Value) (E : Nat) : Stays (CkI g L E) := fun _ _ _ h hl => ⟨h.ok, h.lim.lie hl, h.err.lie hl, h.met.lie hl⟩
theorem CkX.stays (g E : Nat) (c : Code) : Stays (CkX g E c) := fun _ _ _ h hl => ⟨h.code, h.no, h.err.lie hl⟩
theorem CkI.later {g E : Nat} {L : Array Value} {n : Nat} {pre : List (Nat × Ent)} {A B : World} (h : CkI g L E pre A) (hb : Below n A B) (hn : g + 1 + 1 < n) : CkI g L E pre B := ⟨h.ok, h.lim.belowB (by omega) hb, h.err.belowB (by omega) hb, h.met.belowB hn hb⟩
def CkA (base : Nat) (T : Array Value) (x : Nat × Ent) (a' : Act) (W : World) : Prop :=
 ∃ gb, a' = { tmps := (((#[11, 12].zip (encP x)).foldl (fun t (p, v) => t.setIfInBounds p v) T).setIfInBounds 4 (.int .u64 (x.1 : Int))).setIfInBounds 5 (.pointer (some ⟨gb, 0, none⟩)), defers := [] } ∧ RowAt W gb 41 #[.int .i64 x.2.1, .int .u64 x.2.2] ∧ base ≤ gb
theorem okP_cat {E : Nat} {pre r : List (Nat × Ent)} (h : okP E pre [] = false) : okP E (pre ++ r) [] = false := by
 rw [okP_append, h]; rfl
theorem ent_gen {l : Lim} {p : Nat × Ent} (hg : ∀ k, k < 3 → ∀ e ∈ l.r k, 0 ≤ e.2 ∧ e.2 < 18446744073709551616) (h : p ∈ l.each) : 0 ≤ p.2.2 ∧ p.2.2 < 18446744073709551616 := by
 obtain ⟨a, _, _, hm⟩ := mem_each h
 exact hg _ (rowN_lt l.E a) _ hm
theorem each_len (l : Lim) (n : Nat → Nat) (h : ∀ k, k < 3 → (l.r k).length = n k) (hm : ∀ k, k < 3 → n k ≤ 4096) : l.each.length ≤ 12288 := by
 unfold Lim.each
 rw [List.length_append, List.length_append, tag_len, tag_len, tag_len]
 have h0 : ∀ a, (l.at a).length ≤ 4096 := fun a => by unfold Lim.at; rw [h _ (rowN_lt l.E a)]; exact hm _ (rowN_lt l.E a)
 have := h0 0; have := h0 1; have := h0 2
 omega
theorem check_any (B : Nat) (A : Nat → Option Addr) (n c : Nat → Nat) (l : Lim) (W : World) (h : LimRd W B A n l.r) (hE : l.E < 18446744073709551616) (hB : B ≤ W.heap.size) (hm : ∀ k, k < 3 → n k ≤ 4096)
  (hg : ∀ k, k < 3 → ∀ e ∈ l.r k, 0 ≤ e.2 ∧ e.2 < 18446744073709551616) (r : Int) (hr : (if l.ok then 0 else 240) = r) :
  Calls Tryz.prog 55 #[.agg (limC l.E A n c)] W fun e W' => e = .returned (.int .i64 r) ∧ Below W.heap.size W W' := by
 have HR := Hi hr
 have H := Hi h
 have HG := Hi hg
 have HM := Hi hm
 clear h hr hg hm
 by_cases hLast : l.E ≤ LAST
 case neg =>
  have hd : decide ((4611686018427387904 : Int) < (l.E : Int)) = true := by unfold LAST at hLast; simp; omega
  have hd2 : ((4611686018427387904 : Int) < (l.E : Int)) := by simpa using hd
  have HRR := Hi (show r = 240 from by rw [← HR.out, if_neg (fun h => hLast (ok_out h).1)])
  have HBN := Hi (((Below.refl W.heap.size W).alloc (Nat.le_refl _) (.cells (limC l.E A n c) 32)).alloc (by simp) (.cells #[.int .i64 240] 44))
  clear hLast
  go_enter Tryz.func55, Tryz.ntmps55
  go_wp2_with fail
  have hr9 : RowAt ((W.alloc (.cells (limC l.E A n c) 32)).alloc (.cells #[.int .i64 240] 44)) (W.heap.size + 1) 44 #[.int .i64 240] := by
   have h := RowAt.new (W.alloc (.cells (limC l.E A n c) 32)) 44 #[.int .i64 240]
   simpa using h
  have c9 := row1 hr9
  have l9 := hr9.lt
  rw [HRR.out]
  have hfin := HBN.out
  generalize (W.alloc _).alloc _ = w9 at *
  exact bodyPost_ret (by simp [results, Tryz.results55, go_sem, c9, l9]) rfl ⟨rfl, hfin⟩
 refine calls_of_wp_marks Tryz.func55 rfl ?_
 simp only [Tryz.ntmps55, List.size_toArray, List.length_cons, List.length_nil, Nat.reduceAdd, Nat.reduceSub, Array.replicate_succ, Array.replicate_zero, List.push_toArray, List.append_toArray, List.nil_append, List.cons_append]
 obtain ⟨w1, hw1⟩ : ∃ w1, W.alloc (.cells (limC l.E A n c) 32) = w1 := ⟨_, rfl⟩
 obtain ⟨w2, hw2⟩ : ∃ w2, w1.alloc (.cells #[.int .i64 0] 44) = w2 := ⟨_, rfl⟩
 obtain ⟨w3, hw3⟩ : ∃ w3, w2.alloc (.cells (metC []) 133) = w3 := ⟨_, rfl⟩
 have s1 : w1.heap.size = W.heap.size + 1 := by rw [← hw1]; simp
 have s2 : w2.heap.size = W.heap.size + 1 + 1 := by rw [← hw2]; simp [s1]
 have b1 := baw hw1
 have b2 := baw hw2
 have b3 := baw hw3
 have r1 : RowAt w2 W.heap.size 32 (limC l.E A n c) := by have h := RowAt.new W 32 (limC l.E A n c); rw [hw1] at h; exact h.below b2
 have r2 : RowAt w2 (W.heap.size + 1) 44 #[.int .i64 0] := by have h := RowAt.new w1 44 #[.int .i64 0]; rw [hw2, s1] at h; exact h
 have r3 : RowAt w3 (W.heap.size + 1 + 1) 133 (metC []) := by have h := RowAt.new w2 133 (metC []); rw [hw3, s2] at h; exact h
 have HB2 := Hi (b1.trans (b2.mono b1.size))
 have HI3 := Hi (show CkI W.heap.size (limC l.E A n c) l.E [] w3 from ⟨rfl, r1.below b3, r2.below b3, r3⟩)
 have HB3 := Hi ((b1.trans (b2.mono b1.size)).trans (b3.mono (by omega)))
 have R2 := Hi r2
 have S3 := Hi (show w3.heap.size = W.heap.size + 1 + 1 + 1 from by rw [← hw3]; simp [s2])
 clear b1 b2 b3 r1 r2 r3 s1 s2
 subst hw3
 subst hw2
 subst hw1
 ·
  have hd : decide ((4611686018427387904 : Int) < (l.E : Int)) = false := by unfold LAST at hLast; simp; omega
  have hd2 : ¬ ((4611686018427387904 : Int) < (l.E : Int)) := by simpa using hd
  have HL := Hi hLast
  clear hLast hE
  go_wp2_with fail
  generalize ((W.alloc _).alloc _).alloc _ = w3 at *
  refine (each_any l.E A n c w3).mono ?_
  rintro e w4 ⟨rfl, hrow, hb⟩
  have hlb := hrow.lt
  have s3 := S3.out
  have HB4 := bt HB3 hb
  have HI4 := Hi (HI3.out.later hb (by omega))
  have hseq := each_seq B w3.heap.size (w4.heap.size + 2) (fun j => j < B ∨ j = w4.heap.size + 2) A n c l w4 hrow (H.out.below (HB4.out.mono hB)) HL.out (Nat.le_trans hB HB4.out.size) HM.out (fun j hj => .inl hj) (.inr rfl)
  have hs4 : W.heap.size + 1 + 1 + 1 < w4.heap.size := by omega
  have HLEN := Hi (each_len l n H.out.len HM.out)
  rw [s3]
  rw [s3] at hseq
  clear hrow hb hlb s3 HI3 HB3 HB2 R2
  go_wp2_with fail
  refine wp_range6 (gf := 123) (lb := #[.pointer (some ⟨W.heap.size + 1 + 1 + 1, 0, none⟩)]) rfl (enters_of Tryz.func123 (by kernel_rfl) rfl) hseq W.heap.size (by omega) (fun j hj => by have hj : j < B ∨ j = w4.heap.size + 2 := hj; omega) (Below.refl _ _) (fun _ => rfl)
   (CkI W.heap.size (limC l.E A n c) l.E) (CkX W.heap.size l.E) (CkI.stays _ _ _) (CkX.stays _ _) (fun _ _ _ h hb => h.later hb h.met.lt) (fun _ _ _ _ h hb => ⟨h.code, h.no, h.err.below hb⟩) HI4.out
   (CkA (W.heap.size + 1 + 1 + 1)) (fun T a' x => fun _ _ h hl => by obtain ⟨gb, h1, h2, h3⟩ := h; exact ⟨gb, h1, h2.lie hl, h3⟩) ?assign ?body ?done ?stop ?panic
  case assign =>
   intro lo pre x W2 R hI hb hs hlen hV hn2 hR
   dsimp only [encP] at hR ⊢
   have HBN := Hi (show Below W2.heap.size W2 (W2.alloc (.cells #[.int .i64 x.2.1, .int .u64 x.2.2] 41)) from (Below.refl _ _).alloc (Nat.le_refl _) _)
   have HRN := Hi (RowAt.new W2 41 #[.int .i64 x.2.1, .int .u64 x.2.2])
   gi_wp2
   refine hR _ _ (KeepsOthers.alloc _ _) (HBN.out.mono (by omega)) (fun j _ hj => HBN.out.block j hj) (hI.later HBN.out (by omega)) ⟨W2.heap.size, by simp [encP], HRN.out, by omega⟩
  case body =>
   rintro lo pre x a' W2 hI ⟨gb, hpa, hbox, hgb⟩ hb hs hlen hV hn2
   subst hpa
   obtain ⟨ago, s, gen⟩ := x
   dsimp only [encP] at hbox ⊢
   have hgen := ent_gen HG.out hV
   dsimp only at hgen
   have q0 := cl hI.lim 0
   have ql := hI.lim.lt
   have e0 := row20 hbox
   have e1 := row21 hbox
   have el := hbox.lt
   have xl := hI.err.lt
   have x0 := row1 hI.err
   have xf := hI.err.frozen 0
   have HIh := Hi hI
   have HBX := Hi hbox
   have HSN := Hi (okP_snoc l.E pre (ago, (s, gen)))
   dsimp only at HSN
   have HOK := Hi hI.ok
   clear hbox hI hV
   have HEP : Hid (∀ w9, Below W2.heap.size W2 w9 → okP l.E (pre ++ [(ago, (s, gen))]) [] = false → KeepsOthers W2 (w9.setCell ⟨W.heap.size + 1, 0, none⟩ (.int .i64 240)) ∧ Below W.heap.size W2 (w9.setCell ⟨W.heap.size + 1, 0, none⟩ (.int .i64 240)) ∧ CkX W.heap.size l.E .ret (pre ++ [(ago, (s, gen))]) (w9.setCell ⟨W.heap.size + 1, 0, none⟩ (.int .i64 240))) := Hi (fun w9 hb9 hno =>
    ⟨(KeepsOthers.of_below hb9).trans (KeepsOthers.setCell _ _ _), (hb9.mono (by omega)).setCell (p := ⟨W.heap.size + 1, 0, none⟩) (by simp) _, rfl, hno, by
     have h := (HIh.out.err.below hb9).set 0 (.int .i64 240)
     simpa using h⟩)
   by_cases c1 : ago ≤ l.E
   ·
    have d1 : ¬ ((l.E : Int) < (ago : Int)) := by omega
    have d1b : decide ((l.E : Int) < (ago : Int)) = false := by simpa using d1
    obtain ⟨q, hq⟩ : ∃ q, entB (s, gen) = q := ⟨_, rfl⟩
    have HQ := Hi hq
    have HEC := Hi (entry_any s gen hgen W2 q hq)
    clear hq
    cases q
    ·
     have HNO := Hi (show okP l.E (pre ++ [(ago, (s, gen))]) [] = false from by rw [HSN.out, HQ.out]; simp)
     gi_wp2_with (refine wpListIn_skip rfl rfl ?_)
     refine ⟨trivial, (in_round _ _ HEC.out).mono ?_⟩
     rintro e w5 ⟨rfl, hb5⟩
     have HB5 := Hi hb5
     have xl5 := (HIh.out.err.below hb5).lt
     have x05 := row1 (HIh.out.err.below hb5)
     have xf5 := (HIh.out.err.below hb5).frozen 0
     clear hb5
     gi_wp2_with (refine wpListIn_skip rfl rfl ?_)
     exact HEP.out _ HB5.out HNO.out
    ·
     obtain ⟨hs0, hs1, _⟩ := entB_out HQ.out
     dsimp only at hs0 hs1
     gi_wp2_with (refine wpListIn_skip rfl rfl ?_)
     refine ⟨trivial, (in_round _ _ HEC.out).mono ?_⟩
     rintro e w5 ⟨rfl, hb5⟩
     have HB5 := Hi hb5
     have HI5 := Hi (show CkI W.heap.size (limC l.E A n c) l.E pre w5 from ⟨HOK.out, HIh.out.lim.below hb5, HIh.out.err.below hb5, HIh.out.met.below hb5⟩)
     have xl5 := HI5.out.err.lt
     have x05 := row1 HI5.out.err
     have xf5 := HI5.out.err.frozen 0
     have ml5 := HI5.out.met.lt
     have f0 := kept hb5 e0
     have fl := (HBX.out.below hb5).lt
     obtain ⟨sn, rfl⟩ : ∃ sn : Nat, s = (sn : Int) := ⟨s.toNat, by omega⟩
     have hsn : sn < 128 := by omega
     have m0 := (HI5.out.met.cell sn).trans (metC_at (metOf pre) hsn)
     have mf := HI5.out.met.frozen sn
     have HMD := Hi (show decide ((sn : Int) ∈ metOf pre) = (metOf pre).contains (sn : Int) from by rw [List.contains_eq_mem])
     obtain ⟨q3, hq3⟩ : ∃ q3, decide ((sn : Int) ∈ metOf pre) = q3 := ⟨_, rfl⟩
     rw [hq3] at m0
     have HQ3 := Hi hq3
     clear hb5 hq3
     cases q3
     ·
      have HYES := Hi (show okP l.E (pre ++ [(ago, ((sn : Int), gen))]) [] = true from by rw [HSN.out, HQ.out, HOK.out, ← HMD.out, HQ3.out]; simp [c1])
      gi_wp2_with (refine wpListIn_skip rfl rfl ?_)
      refine ⟨(KeepsOthers.of_below HB5.out).trans (KeepsOthers.setCell _ _ _), (HB5.out.mono (by omega)).setCell (p := ⟨W.heap.size + 1 + 1, sn, none⟩) (by simp; omega) _, fun j hj hl => ?_, HYES.out, HI5.out.lim.setNe (by omega), HI5.out.err.setNe (by omega), ?_⟩
      ·
       rw [heap_setCell_ne _ _ _ _ (by have hj : j < B ∨ j = w4.heap.size + 2 := hj; show j ≠ W.heap.size + 1 + 1; omega)]
       exact HB5.out.block j hl
      ·
       have h := HI5.out.met.set sn (.bool true)
       rw [metC_set _ hsn] at h
       have hm2 : metOf (pre ++ [(ago, ((sn : Int), gen))]) = (sn : Int) :: metOf pre := by simp [metOf]
       rw [hm2]
       exact h
     ·
      have HNO := Hi (show okP l.E (pre ++ [(ago, ((sn : Int), gen))]) [] = false from by rw [HSN.out, ← HMD.out, HQ3.out]; simp)
      gi_wp2_with (refine wpListIn_skip rfl rfl ?_)
      exact HEP.out _ HB5.out HNO.out
   ·
    have d1 : (l.E : Int) < (ago : Int) := by omega
    have d1b : decide ((l.E : Int) < (ago : Int)) = true := by simpa using d1
    have HNO := Hi (show okP l.E (pre ++ [(ago, (s, gen))]) [] = false from by rw [HSN.out]; simp [c1])
    gi_wp2_with (refine wpListIn_skip rfl rfl ?_)
    refine ⟨trivial, ?_⟩
    gi_wp2_with (refine wpListIn_skip rfl rfl ?_)
    exact HEP.out _ (Below.refl _ _) HNO.out
  case done =>
   rintro ys W2 rfl hI hb hs hD
   have HRR := Hi (show r = 0 from by rw [← HR.out, if_pos (ok_mk HL.out hI.ok)])
   have q0 := row1 hI.err
   have ql := hI.err.lt
   have qf := hI.err.frozen 0
   have HD := Hi hD
   have HBF := Hi (HB4.out.trans (hb.mono (by omega)))
   have hRZ := (hI.err.set 0 (.int .i64 0))
   clear hb hD hI
   unfold marked
   go_wp2_with fail
   have hD9 : (W2.setCell ⟨W.heap.size + 1, 0, none⟩ (.int .i64 0)).heap[w4.heap.size]? = some (.deferred (some [])) := (heap_setCell_ne _ _ _ _ (by show w4.heap.size ≠ W.heap.size + 1; omega)).trans HD.out
   have hr9 : RowAt ((W2.setCell ⟨W.heap.size + 1, 0, none⟩ (.int .i64 0)).putObj w4.heap.size (.deferred none)) (W.heap.size + 1) 44 #[.int .i64 0] := RowAt.lie hRZ (CellsLie.putObj _ hD9 rfl)
   have c9 := row1 hr9
   have l9 := hr9.lt
   refine ⟨by simp, .inl ⟨_, _, rfl, run_takeDeferred hD9, ?_⟩⟩
   rw [HRR.out]
   have hfin : Below W.heap.size W ((W2.setCell ⟨W.heap.size + 1, 0, none⟩ (.int .i64 0)).putObj w4.heap.size (.deferred none)) := (HBF.out.trans ((Below.refl _ _).setCell (p := ⟨W.heap.size + 1, 0, none⟩) (by simp) _)).trans (below_putObj (o := .deferred (some [])) _ (by omega))
   generalize (W2.setCell ⟨W.heap.size + 1, 0, none⟩ (.int .i64 0)).putObj w4.heap.size (.deferred none) = w9 at *
   exact ⟨_, by simp [results, Tryz.results55, go_sem, c9, l9], rfl, hfin⟩
  case stop =>
   rintro c2 pre W2 ⟨rr, hr2⟩ ⟨rfl, hno, herr⟩ hb hs hD
   have HRR := Hi (show r = 240 from by
    rw [← HR.out, if_neg (fun h => ?_)]
    have h2 := (ok_out h).2
    rw [← hr2, okP_cat hno] at h2
    cases h2)
   have HE9 := Hi herr
   have HD := Hi hD
   have HBF := Hi (HB4.out.trans (hb.mono (by omega)))
   clear hb hD herr hno hr2
   unfold marked
   go_wp2_with fail
   have hr9 : RowAt (W2.putObj w4.heap.size (.deferred none)) (W.heap.size + 1) 44 #[.int .i64 240] := RowAt.lie HE9.out (CellsLie.putObj _ HD.out rfl)
   have c9 := row1 hr9
   have l9 := hr9.lt
   have hfin : Below W.heap.size W (W2.putObj w4.heap.size (.deferred none)) := HBF.out.trans (below_putObj (o := .deferred (some [])) _ (by omega))
   refine ⟨by simp, .inl ⟨_, _, rfl, run_takeDeferred HD.out, ?_⟩⟩
   rw [HRR.out]
   generalize W2.putObj w4.heap.size (.deferred none) = w9 at *
   exact ⟨_, by simp [results, Tryz.results55, go_sem, c9, l9], rfl, hfin⟩
  case panic =>
   rintro pre W2 h
   exact h.elim
end Go.Proofs.YtkicidopjihjmaaGreat.Li
set_option maxRecDepth 20000
namespace Go.Proofs.YtkicidopjihjmaaGreat.Li
open Go Go.RowKit
attribute [local go_sem] via_cell via_frozen
attribute [local go_sem] Oper.semAt_some
def selL (p : Nat × Ent → Bool) (l : List (Nat × Ent)) : List Ent := (l.filter p).map (·.2)
theorem selL_yes {p : Nat × Ent → Bool} (l : List (Nat × Ent)) {x : Nat × Ent} (h : p x = true) : selL p (l ++ [x]) = selL p l ++ [x.2] := by
 unfold selL; rw [List.filter_append, List.map_append]; simp [h]
theorem selL_no {p : Nat × Ent → Bool} (l : List (Nat × Ent)) {x : Nat × Ent} (h : p x = false) : selL p (l ++ [x]) = selL p l := by
 unfold selL; rw [List.filter_append, List.map_append]; simp [h]
theorem selL_len (p : Nat × Ent → Bool) (l : List (Nat × Ent)) : (selL p l).length ≤ l.length := by
 unfold selL; rw [List.length_map]; exact List.length_filter_le _ _
def pAll (_ : Nat × Ent) : Bool := true
def pOld (x : Nat × Ent) : Bool := x.1 == 2
theorem sel_held (l : Lim) : selL pAll l.each = l.held := by
 unfold selL pAll
 rw [List.filter_eq_self.2 (fun _ _ => rfl), each_held]
theorem sel_tag (a : Nat) (l : List Ent) : (tag a l).filter pOld = if a = 2 then tag a l else [] := by
 by_cases h : a = 2
 ·
  rw [if_pos h]; exact List.filter_eq_self.2 (fun x hx => by
   unfold tag at hx; obtain ⟨e, _, rfl⟩ := List.mem_map.1 hx; simp [pOld, h])
 ·
  rw [if_neg h]; exact List.filter_eq_nil_iff.2 (fun x hx => by
   unfold tag at hx; obtain ⟨e, _, rfl⟩ := List.mem_map.1 hx; simp [pOld, h])
theorem sel_ready (l : Lim) : selL pOld l.each = l.at 2 := by
 unfold selL Lim.each
 rw [List.filter_append, List.filter_append, sel_tag, sel_tag, sel_tag]
 simp [tag_snd]
def SelI (p : Nat × Ent → Bool) (ko base : Nat) (pre : List (Nat × Ent)) (W : World) : Prop :=
 ∃ v, RowAt W ko 29 #[v] ∧ W.ownsRow base 41 2 v (selL p pre).length (Cs encE (selL p pre))
theorem SelI.stays (p : Nat × Ent → Bool) (ko base : Nat) : Stays (SelI p ko base) := fun _ _ _ ⟨v, h1, h2⟩ hl => ⟨v, h1.lie hl, own_lie h2 hl⟩
theorem SelI.later {p : Nat × Ent → Bool} {ko base : Nat} {pre : List (Nat × Ent)} {A B : World} (h : SelI p ko base pre A) (hb : Below A.heap.size A B) : SelI p ko base pre B := by
 obtain ⟨v, h1, h2⟩ := h
 exact ⟨v, h1.below hb, own_keepB h2 hb⟩
def EntBox (base : Nat) (x : Nat × Ent) (mk : Nat → Act) (a' : Act) (W : World) : Prop := ∃ gb, a' = mk gb ∧ RowAt W gb 41 #[.int .i64 x.2.1, .int .u64 x.2.2] ∧ base ≤ gb
theorem held_any (B : Nat) (A : Nat → Option Addr) (n c : Nat → Nat) (l : Lim) (W : World) (h : LimRd W B A n l.r) (hE : l.E < 18446744073709551616) (hB : B ≤ W.heap.size) (hm : ∀ k, k < 3 → n k ≤ 4096)
  (hg : ∀ k, k < 3 → ∀ e ∈ l.r k, 0 ≤ e.2 ∧ e.2 < 18446744073709551616) (xs : List Ent) (hx : (if l.ok then l.held else []) = xs) :
  Calls Tryz.prog 95 #[.agg (limC l.E A n c)] W fun e W' => ∃ v, e = .returned v ∧ W'.ownsRow W.heap.size 41 2 v xs.length (Cs encE xs) ∧ Below W.heap.size W W' := by
 have HBN := Hi (show Below W.heap.size W (W.alloc (.cells (limC l.E A n c) 32)) from (Below.refl _ _).alloc (Nat.le_refl _) _)
 have HRN := Hi (RowAt.new W 32 (limC l.E A n c))
 have H := Hi h
 have HM := Hi hm
 have HLEN := Hi (each_len l n h.len hm)
 rcases Bool.eq_false_or_eq_true l.ok with hok | hok
 ·
  rw [hok, if_pos rfl] at hx
  have HC := Hi (check_any B A n c l (W.alloc (.cells (limC l.E A n c) 32)) (h.below (HBN.out.mono hB)) hE (Nat.le_trans hB HBN.out.size) hm hg 0 (by rw [hok]; rfl))
  have HL := Hi (ok_out hok).1
  subst hx
  clear h hg hm hok
  refine calls_of_wp_marks Tryz.func95 rfl ?_
  simp only [Tryz.ntmps95, List.size_toArray, List.length_cons, List.length_nil, Nat.reduceAdd, Nat.reduceSub, Array.replicate_succ, Array.replicate_zero, List.push_toArray, List.append_toArray, List.nil_append, List.cons_append]
  go_wp2_with fail
  with_reducible refine HC.out.mono ?_
  rintro e w1 ⟨rfl, hb1⟩
  have HR1 := Hi (HRN.out.below hb1)
  have HB1 := bt HBN hb1
  have q0 := cl HR1.out 0
  have q1 := cl HR1.out 1
  have q2 := cl HR1.out 2
  have q3 := cl HR1.out 3
  have ql := HR1.out.lt
  clear hb1 HC
  go_wp2_with fail
  obtain ⟨ko, hko⟩ : ∃ ko, w1.heap.size = ko := ⟨_, rfl⟩
  have hRK := RowAt.new w1 29 #[.slice none 0 0]
  have hsk : (w1.alloc (.cells #[.slice none 0 0] 29)).heap.size = ko + 1 := by simp [hko]
  have HBK := Hi (show Below W.heap.size W (w1.alloc (.cells #[.slice none 0 0] 29)) from HB1.out.alloc HB1.out.size _)
  rw [hko] at hRK ql ⊢
  clear q0 q1 q2 q3
  generalize w1.alloc (.cells #[.slice none 0 0] 29) = w2 at *
  refine (each_any l.E A n c w2).mono ?_
  rintro e w5 ⟨rfl, hrow, hb⟩
  have hlb := hrow.lt
  have hrow0 : RowAt w5 ko 29 #[.slice none 0 0] := hRK.below hb
  have HB5 := bt HBK hb
  have hseq := each_seq B w2.heap.size (w5.heap.size + 2) (fun j => j < B ∨ j = w5.heap.size + 2) A n c l w5 hrow (H.out.below (HB5.out.mono hB)) HL.out (Nat.le_trans hB HB5.out.size) HM.out (fun j hj => .inl hj) (.inr rfl)
  have hs5 : ko + 1 < w5.heap.size := by omega
  have HR0 := Hi hrow0
  rw [hsk] at hseq ⊢
  clear hrow hb hlb hrow0 hRK hsk hko
  go_wp2_with fail
  refine wp_range6 (gf := 123) (lb := #[.pointer (some ⟨ko + 1, 0, none⟩)]) rfl (enters_of Tryz.func123 (by kernel_rfl) rfl) hseq ko (by omega) (fun j hj => by have hj : j < B ∨ j = w5.heap.size + 2 := hj; omega) (Below.refl _ _) (fun _ => rfl)
   (SelI pAll ko (w5.heap.size + 3)) (fun _ _ _ => False) (SelI.stays _ _ _) (fun _ _ _ _ h _ => h) (fun _ _ _ h hb => h.later hb) (fun _ _ _ _ h _ => h) ⟨_, HR0.out, World.ownsRow_nil _ _ _ _⟩
   (fun T x a' W2 => EntBox ko x (fun gb => { tmps := (((#[11, 12].zip (encP x)).foldl (fun t (p, v) => t.setIfInBounds p v) T)).setIfInBounds 5 (.pointer (some ⟨gb, 0, none⟩)), defers := [] }) a' W2) (fun T a' x => fun _ _ h hl => by obtain ⟨gb, h1, h2, h3⟩ := h; exact ⟨gb, h1, h2.lie hl, h3⟩) ?assign ?body ?done ?stop ?panic
  case assign =>
   intro lo pre x W2 R hI hb hs hlen hV hn2 hR
   dsimp only [encP] at hR ⊢
   have HBX := Hi (show Below W2.heap.size W2 (W2.alloc (.cells #[.int .i64 x.2.1, .int .u64 x.2.2] 41)) from (Below.refl _ _).alloc (Nat.le_refl _) _)
   have HRX := Hi (RowAt.new W2 41 #[.int .i64 x.2.1, .int .u64 x.2.2])
   gi_wp2
   refine hR _ _ (KeepsOthers.alloc _ _) (HBX.out.mono (by omega)) (fun j _ hj => HBX.out.block j hj) (hI.later HBX.out) ⟨W2.heap.size, by simp [encP], HRX.out, by omega⟩
  case body =>
   rintro lo pre x a' W2 ⟨v, hrow, hown⟩ ⟨gb, hpa, hbox, hgb⟩ hb hs hlen hV hn2
   subst hpa
   obtain ⟨ago, s, gen⟩ := x
   dsimp only [encP] at hbox ⊢
   have e0 := row20 hbox
   have e1 := row21 hbox
   have el := hbox.lt
   have d1 := row1 hrow
   have HR := Hi hrow
   have hWs : ko < W2.heap.size := hrow.lt
   have hpl : (selL pAll pre).length < 12288 := by have := selL_len pAll pre; have := HLEN.out; omega
   clear hrow hbox
   have HSY := Hi (selL_yes (p := pAll) pre (x := (ago, (s, gen))) rfl)
   dsimp only at HSY
   gi_wp2_with (gi_at_builtin; refine wpListIn_app elE rfl _ _ rfl rfl (hown.alloc _) rfl (Rd.new W2 #[.int .i64 s, .int .u64 gen] 41 2 1 rfl) (by simp [Value.oneCell']) (by omega) (by rw [World.size_alloc]; omega) ?_; intro v2 w3 hown3 hb3 hg3 _; obtain ⟨g2, cap2, rfl, hge2, hlt2⟩ := hown3.form (by omega); have hr3 : RowAt w3 ko 29 #[v] := (HR.out.below ((Below.refl _ _).alloc (Nat.le_refl _) _)).belowB (by omega) hb3; have HR3 := Hi hr3; have d3 := row1 hr3; have f3 := hr3.frozen 0; have l3 := hr3.lt; clear hr3)
   have hka : KeepsOthers W2 w3 := (KeepsOthers.alloc W2 _).trans (KeepsOthers.of_grownBy hg3 (fun j o hj ho => by
    obtain ⟨o', ho', hc'⟩ := own_cells (hown.alloc (.cells #[.int .i64 s, .int .u64 gen] 41)) hj
    rw [ho'] at ho
    injection ho with ho
    rw [← ho]; exact hc'))
   refine ⟨hka.trans (KeepsOthers.setCell _ _ _), ((Below.refl ko W2).alloc (by omega) _).trans ((hb3.mono (show ko ≤ w5.heap.size + 3 by omega)).setCell (Nat.le_refl _) _), fun j hj hl => ?_, ⟨_, HR3.out.set 0 _, ?_⟩⟩
   ·
    have hj : j < B ∨ j = w5.heap.size + 2 := hj
    rw [heap_setCell_ne _ _ _ _ (by show j ≠ ko; omega), hb3.block j (by omega), Below.heap_alloc _ _ _ hl]
   ·
    have h := own_other (w' := w3.setCell ⟨ko, 0, none⟩ (.slice (some ⟨g2, 0, none⟩) ((selL pAll pre).length + 1) cap2)) hown3 (fun g hg => heap_setCell_ne _ _ _ _ (by simp; omega))
    rw [HSY.out]
    simp only [List.length_append, List.length_cons, List.length_nil, Cs_append, Cs_one]
    exact h
  case done =>
   rintro ys W2 rfl ⟨v, hrow, hown⟩ hb hs hD
   have d0 := row1 hrow
   have HO := Hi hown
   have HD := Hi hD
   have hlk := hrow.lt
   have hfin := Hi (HB5.out.trans (hb.mono (by omega)))
   clear hrow hown hD hb
   unfold marked
   go_wp2_with fail
   refine ⟨by simp, .inl ⟨_, _, rfl, run_takeDeferred HD.out, ?_⟩⟩
   obtain ⟨A', c', rfl, hc, hcm⟩ := own_form2 HO.out
   refine ⟨.slice A' (selL pAll l.each).length c', by simp [results, Tryz.results95, go_sem], _, rfl, ?_, ?_⟩
   ·
    have h := own_lie HO.out (CellsLie.putObj (.deferred none) HD.out rfl)
    rw [sel_held] at h ⊢
    exact ownsRow_base h (by omega)
   · exact hfin.out.trans (below_putObj (o := .deferred (some [])) _ (by omega))
  case stop =>
   rintro c2 pre W2 _ h
   exact h.elim
  case panic =>
   rintro pre W2 h
   exact h.elim
 ·
  rw [hok, if_neg (by simp)] at hx
  subst hx
  have HC := Hi (check_any B A n c l (W.alloc (.cells (limC l.E A n c) 32)) (h.below (HBN.out.mono hB)) hE (Nat.le_trans hB HBN.out.size) hm hg 240 (by rw [hok]; rfl))
  clear h hg hm hok
  go_enter Tryz.func95, Tryz.ntmps95
  go_wp2_with fail
  with_reducible refine HC.out.mono ?_
  rintro e w1 ⟨rfl, hb1⟩
  have HB1 := bt HBN hb1
  clear hb1
  go_wp2_with fail
  go_ret
  exact ⟨_, rfl, World.ownsRow_nil _ _ _ _, HB1.out⟩
theorem ready_any (B : Nat) (A : Nat → Option Addr) (n c : Nat → Nat) (l : Lim) (W : World) (h : LimRd W B A n l.r) (hE : l.E < 18446744073709551616) (hB : B ≤ W.heap.size) (hm : ∀ k, k < 3 → n k ≤ 4096)
  (hg : ∀ k, k < 3 → ∀ e ∈ l.r k, 0 ≤ e.2 ∧ e.2 < 18446744073709551616) (xs : List Ent) (hx : (if l.ok then l.at 2 else []) = xs) :
  Calls Tryz.prog 110 #[.agg (limC l.E A n c)] W fun e W' => ∃ v, e = .returned v ∧ W'.ownsRow W.heap.size 41 2 v xs.length (Cs encE xs) ∧ Below W.heap.size W W' := by
 have HBN := Hi (show Below W.heap.size W (W.alloc (.cells (limC l.E A n c) 32)) from (Below.refl _ _).alloc (Nat.le_refl _) _)
 have HRN := Hi (RowAt.new W 32 (limC l.E A n c))
 have H := Hi h
 have HM := Hi hm
 have HLEN := Hi (each_len l n h.len hm)
 rcases Bool.eq_false_or_eq_true l.ok with hok | hok
 ·
  rw [hok, if_pos rfl] at hx
  have HC := Hi (check_any B A n c l (W.alloc (.cells (limC l.E A n c) 32)) (h.below (HBN.out.mono hB)) hE (Nat.le_trans hB HBN.out.size) hm hg 0 (by rw [hok]; rfl))
  have HL := Hi (ok_out hok).1
  subst hx
  clear h hg hm hok
  refine calls_of_wp_marks Tryz.func110 rfl ?_
  simp only [Tryz.ntmps110, List.size_toArray, List.length_cons, List.length_nil, Nat.reduceAdd, Nat.reduceSub, Array.replicate_succ, Array.replicate_zero, List.push_toArray, List.append_toArray, List.nil_append, List.cons_append]
  go_wp2_with fail
  with_reducible refine HC.out.mono ?_
  rintro e w1 ⟨rfl, hb1⟩
  have HR1 := Hi (HRN.out.below hb1)
  have HB1 := bt HBN hb1
  have q0 := cl HR1.out 0
  have q1 := cl HR1.out 1
  have q2 := cl HR1.out 2
  have q3 := cl HR1.out 3
  have ql := HR1.out.lt
  clear hb1 HC
  go_wp2_with fail
  obtain ⟨ko, hko⟩ : ∃ ko, w1.heap.size = ko := ⟨_, rfl⟩
  have hRK := RowAt.new w1 29 #[.slice none 0 0]
  have hsk : (w1.alloc (.cells #[.slice none 0 0] 29)).heap.size = ko + 1 := by simp [hko]
  have HBK := Hi (show Below W.heap.size W (w1.alloc (.cells #[.slice none 0 0] 29)) from HB1.out.alloc HB1.out.size _)
  rw [hko] at hRK ql ⊢
  clear q0 q1 q2 q3
  generalize w1.alloc (.cells #[.slice none 0 0] 29) = w2 at *
  refine (each_any l.E A n c w2).mono ?_
  rintro e w5 ⟨rfl, hrow, hb⟩
  have hlb := hrow.lt
  have hrow0 : RowAt w5 ko 29 #[.slice none 0 0] := hRK.below hb
  have HB5 := bt HBK hb
  have hseq := each_seq B w2.heap.size (w5.heap.size + 2) (fun j => j < B ∨ j = w5.heap.size + 2) A n c l w5 hrow (H.out.below (HB5.out.mono hB)) HL.out (Nat.le_trans hB HB5.out.size) HM.out (fun j hj => .inl hj) (.inr rfl)
  have hs5 : ko + 1 < w5.heap.size := by omega
  have HR0 := Hi hrow0
  rw [hsk] at hseq ⊢
  clear hrow hb hlb hrow0 hRK hsk hko
  go_wp2_with fail
  refine wp_range6 (gf := 123) (lb := #[.pointer (some ⟨ko + 1, 0, none⟩)]) rfl (enters_of Tryz.func123 (by kernel_rfl) rfl) hseq ko (by omega) (fun j hj => by have hj : j < B ∨ j = w5.heap.size + 2 := hj; omega) (Below.refl _ _) (fun _ => rfl)
   (SelI pOld ko (w5.heap.size + 3)) (fun _ _ _ => False) (SelI.stays _ _ _) (fun _ _ _ _ h _ => h) (fun _ _ _ h hb => h.later hb) (fun _ _ _ _ h _ => h) ⟨_, HR0.out, World.ownsRow_nil _ _ _ _⟩
   (fun T x a' W2 => EntBox ko x (fun gb => { tmps := (((#[11, 12].zip (encP x)).foldl (fun t (p, v) => t.setIfInBounds p v) T).setIfInBounds 4 (.int .u64 (x.1 : Int))).setIfInBounds 5 (.pointer (some ⟨gb, 0, none⟩)), defers := [] }) a' W2) (fun T a' x => fun _ _ h hl => by obtain ⟨gb, h1, h2, h3⟩ := h; exact ⟨gb, h1, h2.lie hl, h3⟩) ?assign ?body ?done ?stop ?panic
  case assign =>
   intro lo pre x W2 R hI hb hs hlen hV hn2 hR
   dsimp only [encP] at hR ⊢
   have HBX := Hi (show Below W2.heap.size W2 (W2.alloc (.cells #[.int .i64 x.2.1, .int .u64 x.2.2] 41)) from (Below.refl _ _).alloc (Nat.le_refl _) _)
   have HRX := Hi (RowAt.new W2 41 #[.int .i64 x.2.1, .int .u64 x.2.2])
   gi_wp2
   refine hR _ _ (KeepsOthers.alloc _ _) (HBX.out.mono (by omega)) (fun j _ hj => HBX.out.block j hj) (hI.later HBX.out) ⟨W2.heap.size, by simp [encP], HRX.out, by omega⟩
  case body =>
   rintro lo pre x a' W2 ⟨v, hrow, hown⟩ ⟨gb, hpa, hbox, hgb⟩ hb hs hlen hV hn2
   subst hpa
   obtain ⟨ago, s, gen⟩ := x
   dsimp only [encP] at hbox ⊢
   have e0 := row20 hbox
   have e1 := row21 hbox
   have el := hbox.lt
   have d1 := row1 hrow
   have HR := Hi hrow
   have hWs : ko < W2.heap.size := hrow.lt
   have hpl : (selL pOld pre).length < 12288 := by have := selL_len pOld pre; have := HLEN.out; omega
   clear hrow hbox
   by_cases h2 : ago = 2
   ·
    have hd : (((ago : Nat) : Int) == 2) = true := by simp; omega
    have HSY := Hi (selL_yes (p := pOld) pre (x := (ago, (s, gen))) (by simp [pOld, h2]))
    dsimp only at HSY
    clear h2
    gi_wp2_with (gi_at_builtin; refine wpListIn_app elE rfl _ _ rfl rfl (hown.alloc _) rfl (Rd.new W2 #[.int .i64 s, .int .u64 gen] 41 2 1 rfl) (by simp [Value.oneCell']) (by omega) (by rw [World.size_alloc]; omega) ?_; intro v2 w3 hown3 hb3 hg3 _; obtain ⟨g2, cap2, rfl, hge2, hlt2⟩ := hown3.form (by omega); have hr3 : RowAt w3 ko 29 #[v] := (HR.out.below ((Below.refl _ _).alloc (Nat.le_refl _) _)).belowB (by omega) hb3; have HR3 := Hi hr3; have d3 := row1 hr3; have f3 := hr3.frozen 0; have l3 := hr3.lt; clear hr3)
    have hka : KeepsOthers W2 w3 := (KeepsOthers.alloc W2 _).trans (KeepsOthers.of_grownBy hg3 (fun j o hj ho => by
     obtain ⟨o', ho', hc'⟩ := own_cells (hown.alloc (.cells #[.int .i64 s, .int .u64 gen] 41)) hj
     rw [ho'] at ho
     injection ho with ho
     rw [← ho]; exact hc'))
    refine ⟨hka.trans (KeepsOthers.setCell _ _ _), ((Below.refl ko W2).alloc (by omega) _).trans ((hb3.mono (show ko ≤ w5.heap.size + 3 by omega)).setCell (Nat.le_refl _) _), fun j hj hl => ?_, ⟨_, HR3.out.set 0 _, ?_⟩⟩
    ·
     have hj : j < B ∨ j = w5.heap.size + 2 := hj
     rw [heap_setCell_ne _ _ _ _ (by show j ≠ ko; omega), hb3.block j (by omega), Below.heap_alloc _ _ _ hl]
    ·
     have h := own_other (w' := w3.setCell ⟨ko, 0, none⟩ (.slice (some ⟨g2, 0, none⟩) ((selL pOld pre).length + 1) cap2)) hown3 (fun g hg => heap_setCell_ne _ _ _ _ (by simp; omega))
     rw [HSY.out]
     simp only [List.length_append, List.length_cons, List.length_nil, Cs_append, Cs_one]
     exact h
   ·
    have hd : (((ago : Nat) : Int) == 2) = false := by simp; omega
    have HSN := Hi (selL_no (p := pOld) pre (x := (ago, (s, gen))) (by simp [pOld, h2]))
    gi_wp2
    exact ⟨KeepsOthers.refl _, Below.refl _ _, fun j hj hl => rfl, by rw [SelI, HSN.out]; exact ⟨_, HR.out, hown⟩⟩
  case done =>
   rintro ys W2 rfl ⟨v, hrow, hown⟩ hb hs hD
   have d0 := row1 hrow
   have HO := Hi hown
   have HD := Hi hD
   have hlk := hrow.lt
   have hfin := Hi (HB5.out.trans (hb.mono (by omega)))
   clear hrow hown hD hb
   unfold marked
   go_wp2_with fail
   refine ⟨by simp, .inl ⟨_, _, rfl, run_takeDeferred HD.out, ?_⟩⟩
   obtain ⟨A', c', rfl, hc, hcm⟩ := own_form2 HO.out
   refine ⟨.slice A' (selL pOld l.each).length c', by simp [results, Tryz.results110, go_sem], _, rfl, ?_, ?_⟩
   ·
    have h := own_lie HO.out (CellsLie.putObj (.deferred none) HD.out rfl)
    rw [sel_ready] at h ⊢
    exact ownsRow_base h (by omega)
   · exact hfin.out.trans (below_putObj (o := .deferred (some [])) _ (by omega))
  case stop =>
   rintro c2 pre W2 _ h
   exact h.elim
  case panic =>
   rintro pre W2 h
   exact h.elim
 ·
  rw [hok, if_neg (by simp)] at hx
  subst hx
  have HC := Hi (check_any B A n c l (W.alloc (.cells (limC l.E A n c) 32)) (h.below (HBN.out.mono hB)) hE (Nat.le_trans hB HBN.out.size) hm hg 240 (by rw [hok]; rfl))
  clear h hg hm hok
  go_enter Tryz.func110, Tryz.ntmps110
  go_wp2_with fail
  with_reducible refine HC.out.mono ?_
  rintro e w1 ⟨rfl, hb1⟩
  have HB1 := bt HBN hb1
  clear hb1
  go_wp2_with fail
  go_ret
  exact ⟨_, rfl, World.ownsRow_nil _ _ _ _, HB1.out⟩
end Go.Proofs.YtkicidopjihjmaaGreat.Li
set_option maxRecDepth 20000
namespace Go.Proofs.YtkicidopjihjmaaGreat.Li
open Go Go.RowKit
attribute [local go_sem] via_cell via_frozen
attribute [local go_sem] Oper.semAt_some
structure WhB (g : Nat) (L : Array Value) (s : Int) (a : Int) (b : Bool) (W : World) : Prop where
 lim : RowAt W g 32 L
 slab : RowAt W (g + 1) 3 #[.int .i64 s]
 at_ : RowAt W (g + 1 + 1) 25 #[.int .u64 a]
 some_ : RowAt W (g + 1 + 1 + 1) 4 #[.bool b]
theorem WhB.lie {g : Nat} {L : Array Value} {s a : Int} {b : Bool} {A B : World} (h : WhB g L s a b A) (hl : CellsLie A B) : WhB g L s a b B := ⟨h.lim.lie hl, h.slab.lie hl, h.at_.lie hl, h.some_.lie hl⟩
theorem WhB.below {g : Nat} {L : Array Value} {s a : Int} {b : Bool} {A B : World} (h : WhB g L s a b A) (hb : Below A.heap.size A B) : WhB g L s a b B := ⟨h.lim.below hb, h.slab.below hb, h.at_.below hb, h.some_.below hb⟩
theorem WhB.store {g : Nat} {L : Array Value} {s a a' : Int} {b b' : Bool} {A : World} (h : WhB g L s a b A) : WhB g L s a' b' ((A.setCell ⟨g + 1 + 1, 0, none⟩ (.int .u64 a')).setCell ⟨g + 1 + 1 + 1, 0, none⟩ (.bool b')) :=
 ⟨(h.lim.setNe (by omega)).setNe (by omega), (h.slab.setNe (by omega)).setNe (by omega), (h.at_.set 0 (.int .u64 a')).setNe (by omega), (h.some_.setNe (by omega)).set 0 (.bool b')⟩
def WhI (g : Nat) (L : Array Value) (s : Int) (pre : List (Nat × Ent)) (W : World) : Prop := WhB g L s 0 false W ∧ ∀ p ∈ pre, p.2.1 ≠ s
def WhX (g : Nat) (L : Array Value) (s : Int) (E : Nat) (c : Code) (pre : List (Nat × Ent)) (W : World) : Prop := c = .ret ∧ ∃ p x, pre = p ++ [x] ∧ (∀ y ∈ p, y.2.1 ≠ s) ∧ x.2.1 = s ∧ WhB g L s ((E : Int) - (x.1 : Int)) true W
theorem WhI.stays (g : Nat) (L : Array Value) (s : Int) : Stays (WhI g L s) := fun _ _ _ h hl => ⟨h.1.lie hl, h.2⟩
theorem WhX.stays (g : Nat) (L : Array Value) (s : Int) (E : Nat) (c : Code) : Stays (WhX g L s E c) := fun _ _ _ ⟨h0, p, x, h1, h2, h3, h4⟩ hl => ⟨h0, p, x, h1, h2, h3, h4.lie hl⟩
end Go.Proofs.YtkicidopjihjmaaGreat.Li
set_option maxRecDepth 20000
namespace Go.Proofs.YtkicidopjihjmaaGreat.Li
open Go Go.RowKit
attribute [local go_sem] via_cell via_frozen
@[local go_sem] theorem wpmf (fn : Fn) (first cap : Array Value) (w : World) : (Instr.makeFunc fn first cap).run Tryz.prog w = .ok (.func fn first cap) w := rfl
@[local go_sem] theorem assert_errno (k : Int) (W : World) : (Instr.typeAssert (.iface 44 (.int .i64 k)) 20 44 true).run Tryz.prog W = .ok (.tuple #[.int .i64 k, .bool true]) W := by
 simp [Instr.typeAssert]
theorem catch_idle (p q : Addr) (w : World) :
  CallsD Tryz.prog 153 #[.pointer (some p), .pointer (some q)] .returning w fun e u' w' => e = .returned (.tuple #[]) ∧ u' = .returning ∧ w' = w := by
 refine callsD_of_wpS Tryz.func153 rfl fun c₀ cs hu => ?_
 apply wpS_seq
 apply wpS_region
 simp [wpOpsS, go_sem, recoverD, hu, Tryz.ntmps153, Exit.thenS]
 refine wpS_of_wp ?_
 simp only [List.size_toArray, List.length_cons, List.length_nil, Nat.reduceAdd, Nat.reduceSub, Array.replicate_succ, Array.replicate_zero, List.push_toArray, List.append_toArray, List.nil_append, List.cons_append, List.setIfInBounds_toArray, List.set_cons_succ, List.set_cons_zero]
 go_wp2
 cases c₀
 simp_all [bodyPostS, results, Tryz.results153]
structure PastK (kl B : Nat) (w w' : World) : Prop where
 os : w'.os = w.os
 tape : w'.tape = w.tape
 output : w'.output = w.output
 size : w.heap.size ≤ w'.heap.size
 block : ∀ j, j < B → j ≠ kl → j < w.heap.size → w'.heap[j]? = w.heap[j]?
theorem PastK.refl (kl B : Nat) (w : World) : PastK kl B w w := ⟨rfl, rfl, rfl, Nat.le_refl _, fun _ _ _ _ => rfl⟩
theorem PastK.trans {kl B : Nat} {a b c : World} (h : PastK kl B a b) (g : PastK kl B b c) : PastK kl B a c :=
 ⟨g.os.trans h.os, g.tape.trans h.tape, g.output.trans h.output, Nat.le_trans h.size g.size, fun j h1 h2 hl => (g.block j h1 h2 (Nat.lt_of_lt_of_le hl h.size)).trans (h.block j h1 h2 hl)⟩
theorem PastK.of_below {kl B B' : Nat} {a b : World} (h : Below B' a b) (hb : B ≤ B') : PastK kl B a b := ⟨h.os, h.tape, h.output, h.size, fun j h1 _ _ => h.block j (by omega)⟩
theorem PastK.less {kl B B' : Nat} {a b : World} (h : PastK kl B a b) (hb : B' ≤ B) : PastK kl B' a b := ⟨h.os, h.tape, h.output, h.size, fun j h1 h2 hl => h.block j (by omega) h2 hl⟩
theorem PastK.setKl {kl B : Nat} {a : World} (o : Nat) (v : Value) : PastK kl B a (a.setCell ⟨kl, o, none⟩ v) := ⟨rfl, rfl, rfl, by simp, fun j _ h2 _ => heap_setCell_ne _ _ _ _ h2⟩
structure LimOwn (w : World) (base : Nat) (A : Nat → Option Addr) (n c : Nat → Nat) (r : Nat → List Ent) : Prop where
 own : ∀ k, k < 3 → OwnO w base 41 2 (.slice (A k) (n k) (c k)) (n k) (Cs encE (r k))
 len : ∀ k, k < 3 → (r k).length = n k
 apart : ∀ j k, j < 3 → k < 3 → j ≠ k → ∀ p q, A j = some p → A k = some q → p.block ≠ q.block
theorem LimOwn.rd {w : World} {base : Nat} {A : Nat → Option Addr} {n c : Nat → Nat} {r : Nat → List Ent} (h : LimOwn w base A n c r) : LimRd w w.heap.size A n r := ⟨fun k hk => (h.own k hk).rd, h.len⟩
theorem LimOwn.other {w w' : World} {base : Nat} {A : Nat → Option Addr} {n c : Nat → Nat} {r : Nat → List Ent} (h : LimOwn w base A n c r) (hl : ∀ g, base ≤ g → g < w.heap.size → w'.heap[g]? = w.heap[g]?) : LimOwn w' base A n c r :=
 ⟨fun k hk => (h.own k hk).other (fun g h1 h2 _ => hl g h1 h2), h.len, h.apart⟩
theorem LimOwn.keepB {w w' : World} {base : Nat} {A : Nat → Option Addr} {n c : Nat → Nat} {r : Nat → List Ent} (h : LimOwn w base A n c r) (hb : Below w.heap.size w w') : LimOwn w' base A n c r := h.other fun g _ hl => hb.block g hl
theorem LimOwn.lower {w : World} {base base' : Nat} {A : Nat → Option Addr} {n c : Nat → Nat} {r : Nat → List Ent} (h : LimOwn w base A n c r) (hb : base' ≤ base) : LimOwn w base' A n c r := ⟨fun k hk => (h.own k hk).lower hb, h.len, h.apart⟩
theorem OwnO.fresh {w : World} {base : Nat} {e : TypeId} {sz n c : Nat} {A : Option Addr} {xs : List Value} (h : OwnO w base e sz (.slice A n c) n xs) {p : Addr} (hp : A = some p) : base ≤ p.block ∧ p.block < w.heap.size := h.lt (by rw [hp]; rfl)
structure ChAt (w : World) (gx base : Nat) (l : Lim) (A : Nat → Option Addr) (n c : Nat → Nat) : Prop where
 row : RowAt w gx 160 (limC l.E A n c)
 own : LimOwn w base A n c l.r
 lt : gx < base
theorem ChAt.below {w w' : World} {gx base : Nat} {l : Lim} {A : Nat → Option Addr} {n c : Nat → Nat} (h : ChAt w gx base l A n c) (hb : Below w.heap.size w w') : ChAt w' gx base l A n c := ⟨h.row.below hb, h.own.keepB hb, h.lt⟩
abbrev zeroC : Array Value := #[.int .u64 0, .slice none 0 0, .slice none 0 0, .slice none 0 0]
structure CaughtRes (b1 b2 : Nat) (k : Int) (w w' : World) : Prop where
 out : RowAt w' b1 32 zeroC
 err : RowAt w' b2 44 #[.int .i64 k]
 os : w'.os = w.os
 tape : w'.tape = w.tape
 output : w'.output = w.output
 size : w'.heap.size = w.heap.size
 block : ∀ j, j ≠ b1 → j ≠ b2 → w'.heap[j]? = w.heap[j]?
theorem catch_err (b1 b2 : Nat) (k : Int) (w : World) (h1 : RowAt w b1 32 zeroC) (h2 : RowAt w b2 44 #[.int .i64 0]) (hne : b1 ≠ b2) :
  CallsD Tryz.prog 153 #[.pointer (some ⟨b1, 0, none⟩), .pointer (some ⟨b2, 0, none⟩)] (.panicking (errX k)) w fun e u' w' =>
   e = .returned (.tuple #[]) ∧ u' = .panicking [{ v := .iface 44 (.int .i64 k), recovered := true }] ∧ CaughtRes b1 b2 k w w' := by
 have z0 := cl h1 0
 have z1 := cl h1 1
 have z2 := cl h1 2
 have z3 := cl h1 3
 have c2 := row1 h2
 have f10 := h1.frozen 0
 have f11 := h1.frozen 1
 have f12 := h1.frozen 2
 have f13 := h1.frozen 3
 have f2 := h2.frozen 0
 have hne2 : ¬ b1 = b2 := hne
 have hne3 : ¬ b2 = b1 := fun h => hne h.symm
 have hl1 := h1.lt
 have hl2 := h2.lt
 have HRES : Hid (CaughtRes b1 b2 k w (((((w.setCell ⟨b1, 0, none⟩ (.int .u64 0)).setCell ⟨b1, 1, none⟩ (.slice none 0 0)).setCell ⟨b1, 2, none⟩ (.slice none 0 0)).setCell ⟨b1, 3, none⟩ (.slice none 0 0)).setCell ⟨b2, 0, none⟩ (.int .i64 k))) := Hi ⟨by
   have h := ((((h1.set 0 (.int .u64 0)).set 1 (.slice none 0 0)).set 2 (.slice none 0 0)).set 3 (.slice none 0 0)).setNe (g2 := b2) (o := 0) (v := .int .i64 k) hne
   simpa using h, by
   have h := ((((h2.setNe (g2 := b1) (o := 0) (v := .int .u64 0) hne3).setNe (g2 := b1) (o := 1) (v := .slice none 0 0) hne3).setNe (g2 := b1) (o := 2) (v := .slice none 0 0) hne3).setNe (g2 := b1) (o := 3) (v := .slice none 0 0) hne3).set 0 (.int .i64 k)
   simpa using h, rfl, rfl, rfl, by simp, fun j hj1 hj2 => by
   rw [heap_setCell_ne _ _ _ _ hj2, heap_setCell_ne _ _ _ _ hj1, heap_setCell_ne _ _ _ _ hj1, heap_setCell_ne _ _ _ _ hj1, heap_setCell_ne _ _ _ _ hj1]⟩
 clear h1 h2
 refine callsD_of_wpS Tryz.func153 rfl fun c₀ cs hu => ?_
 apply wpS_seq
 apply wpS_region
 simp [wpOpsS, go_sem, recoverD, hu, Tryz.ntmps153, Exit.thenS, errX]
 refine wpS_of_wp ?_
 simp only [List.size_toArray, List.length_cons, List.length_nil, Nat.reduceAdd, Nat.reduceSub, Array.replicate_succ, Array.replicate_zero, List.push_toArray, List.append_toArray, List.nil_append, List.cons_append, List.setIfInBounds_toArray, List.set_cons_succ, List.set_cons_zero]
 go_wp2
 simp [bodyPostS, results, Tryz.results153]
 exact HRES.out
theorem tries_no (B : Nat) (A : Nat → Option Addr) (n c : Nat → Nat) (l : Lim) (g : Nat) (lb : Array Value) (W : World) (h : LimRd W B A n l.r) (hE : l.E < 18446744073709551616) (hB : B ≤ W.heap.size) (hm : ∀ k, k < 3 → n k ≤ 4096)
  (hg : ∀ k, k < 3 → ∀ e ∈ l.r k, 0 ≤ e.2 ∧ e.2 < 18446744073709551616) (ho : l.ok = false) :
  Calls Tryz.prog 135 #[.agg (limC l.E A n c), .func (.func g) #[] lb] W fun e W' => e = .returned (.tuple #[.agg zeroC, .int .i64 240]) ∧ Below W.heap.size W W' := by
 obtain ⟨w1, hw1⟩ : ∃ w1, W.alloc (.cells (limC l.E A n c) 32) = w1 := ⟨_, rfl⟩
 obtain ⟨w2, hw2⟩ : ∃ w2, w1.alloc (.cells zeroC 32) = w2 := ⟨_, rfl⟩
 obtain ⟨w3, hw3⟩ : ∃ w3, w2.alloc (.cells #[.int .i64 0] 44) = w3 := ⟨_, rfl⟩
 have s1 : w1.heap.size = W.heap.size + 1 := by rw [← hw1]; simp
 have s2 : w2.heap.size = W.heap.size + 1 + 1 := by rw [← hw2]; simp [s1]
 have b1 := baw hw1
 have b2 := baw hw2
 have b3 := baw hw3
 have r1 : RowAt w3 W.heap.size 32 (limC l.E A n c) := by have h := RowAt.new W 32 (limC l.E A n c); rw [hw1] at h; exact (h.below b2).below b3
 have r2 : RowAt w3 (W.heap.size + 1) 32 zeroC := by have h := RowAt.new w1 32 zeroC; rw [hw2, s1] at h; exact h.below b3
 have r3 : RowAt w3 (W.heap.size + 1 + 1) 44 #[.int .i64 0] := by have h := RowAt.new w2 44 #[.int .i64 0]; rw [hw3, s2] at h; exact h
 have hb0 : Below W.heap.size W w3 := (b1.trans (b2.mono b1.size)).trans (b3.mono (by omega))
 have HC := Hi (check_any B A n c l w3 (h.below (hb0.mono hB)) hE (Nat.le_trans hB hb0.size) hm hg 240 (by rw [ho]; rfl))
 have HB := Hi hb0
 have R2 := Hi r2
 have R3 := Hi r3
 clear b1 b2 b3 hb0 r1 r2 r3 h ho s1 s2 hg hm
 subst hw3
 subst hw2
 subst hw1
 go_enter_defers Tryz.func135, Tryz.ntmps135
 go_wp2_with fail
 generalize ((W.alloc _).alloc _).alloc _ = w3 at *
 with_reducible refine HC.out.mono ?_
 rintro e w4 ⟨rfl, hb⟩
 have R2 := Hi (R2.out.below hb)
 have R3 := Hi (R3.out.below hb)
 have HB := bt HB hb
 clear hb
 go_wp2_with fail
 refine (need_no 240 _).mono ?_
 rintro e w5 ⟨rfl, rfl⟩
 dsimp only
 refine leaves_cons (f := 153) (args := #[.pointer (some ⟨W.heap.size + 1, 0, none⟩), .pointer (some ⟨W.heap.size + 1 + 1, 0, none⟩)]) (by simp) (by simp [go_sem]) ?_
 refine (catch_err (W.heap.size + 1) (W.heap.size + 1 + 1) 240 w4 R2.out R3.out (by omega)).mono ?_
 rintro e u' w9 ⟨rfl, rfl, hC⟩
 have z0 := cl hC.out 0
 have z1 := cl hC.out 1
 have z2 := cl hC.out 2
 have z3 := cl hC.out 3
 have hfin : Below W.heap.size W w9 := HB.out.trans ⟨hC.os, hC.tape, hC.output, by rw [hC.size]; exact Nat.le_refl _, fun j hj => hC.block j (by omega) (by omega)⟩
 simp [Leaves, settle, results, Tryz.results135, go_sem, z0, z1, z2, z3, row1 hC.err, hC.out.lt, hC.err.lt]
 exact hfin
end Go.Proofs.YtkicidopjihjmaaGreat.Li
set_option maxRecDepth 20000
namespace Go.Proofs.YtkicidopjihjmaaGreat.Li
open Go Go.RowKit
attribute [local go_sem] via_cell via_frozen
def DoesRes (kl gx base : Nat) (G : Lim → Prop) (F : Int → World → Prop) (X : Lim → World → Prop) (w : World) (e : Ending) (w' : World) : Prop :=
 PastK kl gx w w' ∧ ((e = .returned (.tuple #[]) ∧ ∃ l' A' n' c', ChAt w' gx base l' A' n' c' ∧ G l' ∧ X l' w') ∨ (∃ k, e = .panicked (errX k) ∧ F k w'))
def TrRes (kl base : Nat) (G : Lim → Prop) (F : Int → World → Prop) (X : Lim → World → Prop) (W : World) (e : Ending) (W' : World) : Prop :=
 PastK kl base W W' ∧ ((∃ (l' : Lim) (A' : Nat → Option Addr) (n' c' : Nat → Nat), e = .returned (.tuple #[.agg (limC l'.E A' n' c'), .int .i64 0]) ∧ LimOwn W' base A' n' c' l'.r ∧ G l' ∧ X l' W') ∨
  (∃ k, e = .returned (.tuple #[.agg zeroC, .int .i64 k]) ∧ F k W'))
structure CpAt (w0 wr : World) (gx i : Nat) (l : Lim) (A : Nat → Option Addr) (n c : Nat → Nat) (A' : Nat → Option Addr) (c' : Nat → Nat) : Prop where
 row : RowAt wr gx 160 (limC l.E A' n c')
 own : ∀ k, k < i → k < 3 → OwnO wr (gx + 1) 41 2 (.slice (A' k) (n k) (c' k)) (n k) (Cs encE (l.r k))
 apart : ∀ j k, j < i → k < i → j < 3 → k < 3 → j ≠ k → ∀ p q, A' j = some p → A' k = some q → p.block ≠ q.block
 below : Below gx w0 wr
theorem limC_upd (E : Nat) (A : Nat → Option Addr) (n c : Nat → Nat) {k : Nat} (hk : k < 3) (A1 : Option Addr) (c1 : Nat) :
  (limC E A n c).setIfInBounds (1 + k) (.slice A1 (n k) c1) = limC E (fun j => if j = k then A1 else A j) n (fun j => if j = k then c1 else c j) := by
 match k, hk with
 | 0, _ => rfl
 | 1, _ => rfl
 | 2, _ => rfl
theorem CpAt.next {w0 wr w8 : World} {gx i : Nat} {l : Lim} {A : Nat → Option Addr} {n c : Nat → Nat} {A' : Nat → Option Addr} {c' : Nat → Nat} (h : CpAt w0 wr gx i l A n c A' c') (hi : i < 3) (g : Nat) (hg : wr.heap.size ≤ g)
  (hk : ∀ j, j ≠ gx → j < wr.heap.size → w8.heap[j]? = wr.heap[j]?) (hb : Below gx wr w8) (hrow : RowAt w8 gx 160 ((limC l.E A' n c').setIfInBounds (1 + i) (.slice (some ⟨g, 0, none⟩) (n i) (n i))))
  (hown : OwnO w8 (gx + 1) 41 2 (.slice (some ⟨g, 0, none⟩) (n i) (n i)) (n i) (Cs encE (l.r i))) :
  CpAt w0 w8 gx (i + 1) l A n c (fun j => if j = i then some ⟨g, 0, none⟩ else A' j) (fun j => if j = i then n i else c' j) := by
 refine ⟨by rw [← limC_upd _ _ _ _ hi]; exact hrow, fun k h1 h3 => ?_, fun j k h1 h2 h3 h4 hne p q hp hq => ?_, h.below.trans hb⟩
 ·
  by_cases hki : k = i
  · subst hki; simpa using hown
  ·
   simp only [if_neg hki]
   exact (h.own k (by omega) h3).other (fun g' h5 h6 _ => hk g' (by omega) h6)
 ·
  by_cases hji : j = i
  ·
   have hki : k ≠ i := by omega
   simp only [if_pos hji] at hp
   simp only [if_neg hki] at hq
   injection hp with hp
   have := ((h.own k (by omega) h4).fresh hq).2
   rw [← hp]
   show g ≠ q.block
   omega
  ·
   by_cases hki : k = i
   ·
    simp only [if_neg hji] at hp
    simp only [if_pos hki] at hq
    injection hq with hq
    have := ((h.own j (by omega) h3).fresh hp).2
    rw [← hq]
    show p.block ≠ g
    omega
   ·
    simp only [if_neg hji] at hp
    simp only [if_neg hki] at hq
    exact h.apart j k (by omega) (by omega) h3 h4 hne p q hp hq
theorem index_rows0 (v0 v1 v2 : Value) (w : World) : (Instr.index 30 (.agg #[v0, v1, v2]) (.int .i64 0)).run Tryz.prog w = .ok v0 w := by kernel_rfl
theorem index_rows1 (v0 v1 v2 : Value) (w : World) : (Instr.index 30 (.agg #[v0, v1, v2]) (.int .i64 1)).run Tryz.prog w = .ok v1 w := by kernel_rfl
theorem index_rows2 (v0 v1 v2 : Value) (w : World) : (Instr.index 30 (.agg #[v0, v1, v2]) (.int .i64 2)).run Tryz.prog w = .ok v2 w := by kernel_rfl
theorem index_rows (A : Nat → Option Addr) (n c : Nat → Nat) (k : Nat) (hk : k < 3) (w : World) : (Instr.index 30 (.agg #[.slice (A 0) (n 0) (c 0), .slice (A 1) (n 1) (c 1), .slice (A 2) (n 2) (c 2)]) (.int .i64 (k : Int))).run Tryz.prog w = .ok (.slice (A k) (n k) (c k)) w := by
 match k, hk with
 | 0, _ => exact index_rows0 _ _ _ w
 | 1, _ => exact index_rows1 _ _ _ w
 | 2, _ => exact index_rows2 _ _ _ w
theorem run_copy_none {P : Program} (w : World) (dT sT ty elem : TypeId) (D S : Option Addr) (dc sc : Nat) (sz : Nat) (hu : P.underlying dT = some (.slice elem)) (hsz : (P.info? elem).map (·.size) = some sz) :
  (Builtin.copy_ #[dT, sT] ty #[.slice D 0 dc, .slice S 0 sc]).run P w = .ok (goInt 0) w := by
 obtain ⟨i, hi, his⟩ := Option.map_eq_some_iff.1 hsz
 cases D <;> cases S <;> simp [Builtin.copy_, run_underlying hu, sizeOf, typeInfo, hi, Builtin.lenOf, Builtin.firstCells, loadCells, loadCellsFrom, storeCells]
theorem wpList_copyAny {P : Program} {w : World} {ops : Array Oper} {rest : List Oper} {o : Oper} {a : Act} {Q : Exit → Act → World → Prop} (hgd : o.guard = none) (d s : Operand) (dT sT : TypeId)
  (ho : o.op = .call { callee := .builtin .copy, args := #[d, s], argTypes := #[dT, sT] }) (elem : TypeId) (sz : Nat) (hu : P.underlying dT = some (.slice elem)) (hsz : (P.info? elem).map (·.size) = some sz)
  (g n dCap sCap B : Nat) (A : Option Addr) (hd : a.eval d = .slice (some ⟨g, 0, none⟩) n dCap) (hs : a.eval s = .slice A n sCap)
  (cur : Array Value) (t : TypeId) (hg : RowAt w g t cur) (cs : List Value) (hr : Rd w B sz A n cs) (hfit : cs.length = cur.size) (h1 : ∀ v ∈ cs, v.oneCell' = true)
  (h : ∀ w', RowAt w' g t cs.toArray → Past g w w' → wpList P ops Q rest (a.put o.dst (goInt n)) w') : wpList P ops Q (o :: rest) a w := by
 rcases Nat.eq_zero_or_pos n with h0 | h0
 ·
  subst h0
  have hcs : cs = [] := hr.nil
  subst hcs
  have hcur : cur = #[] := Array.eq_empty_of_size_eq_zero (by simpa using hfit.symm)
  subst hcur
  exact wpList_copy_runI w hgd d s dT sT ho _ _ hd hs (run_copy_none w dT sT o.type elem _ _ _ _ sz hu hsz) (h w hg (Past.refl _ _))
 · exact wpList_copyRow hgd d s dT sT ho elem sz hu hsz g n dCap sCap B A hd hs h0 cur t hg cs hr hfit h1 h
def CpEx (w0 wr : World) (gx i : Nat) (l : Lim) (A : Nat → Option Addr) (n c : Nat → Nat) : Prop := ∃ A' c', CpAt w0 wr gx i l A n c A' c'
theorem limC_cell {w : World} {g E : Nat} {T : TypeId} {A : Nat → Option Addr} {n c : Nat → Nat} (h : RowAt w g T (limC E A n c)) {k : Nat} (hk : k < 3) : w.cell? ⟨g, 1 + k, none⟩ = some (.slice (A k) (n k) (c k)) := (h.cell (1 + k)).trans (limC_at E A n c hk)
structure LaidR (W w : World) (E : Nat) (A : Nat → Option Addr) (n c : Nat → Nat) (w' : World) : Prop where
 out : RowAt w' (W.heap.size + 1) 32 (limC E A n c)
 err : RowAt w' (W.heap.size + 1 + 1) 44 #[.int .i64 0]
 block : ∀ j, j ≠ W.heap.size + 1 → j ≠ W.heap.size + 1 + 1 → j < w.heap.size → w'.heap[j]? = w.heap[j]?
 past : ∀ kl, PastK kl W.heap.size w w'
theorem laid_of {W w : World} {E : Nat} {A : Nat → Option Addr} {n c : Nat → Nat} (h1 : RowAt w (W.heap.size + 1) 32 zeroC) (h2 : RowAt w (W.heap.size + 1 + 1) 44 #[.int .i64 0]) :
  LaidR W w E A n c (((((w.setCell ⟨W.heap.size + 1, 0, none⟩ (.int .u64 (E : Int))).setCell ⟨W.heap.size + 1, 1, none⟩ (.slice (A 0) (n 0) (c 0))).setCell ⟨W.heap.size + 1, 2, none⟩ (.slice (A 1) (n 1) (c 1))).setCell ⟨W.heap.size + 1, 3, none⟩ (.slice (A 2) (n 2) (c 2))).setCell ⟨W.heap.size + 1 + 1, 0, none⟩ (.int .i64 0)) := by
 have hblk : ∀ j, j ≠ W.heap.size + 1 → j ≠ W.heap.size + 1 + 1 → (((((w.setCell ⟨W.heap.size + 1, 0, none⟩ (.int .u64 (E : Int))).setCell ⟨W.heap.size + 1, 1, none⟩ (.slice (A 0) (n 0) (c 0))).setCell ⟨W.heap.size + 1, 2, none⟩ (.slice (A 1) (n 1) (c 1))).setCell ⟨W.heap.size + 1, 3, none⟩ (.slice (A 2) (n 2) (c 2))).setCell ⟨W.heap.size + 1 + 1, 0, none⟩ (.int .i64 0)).heap[j]? = w.heap[j]? := fun j hj1 hj2 => by
  rw [heap_setCell_ne _ _ _ _ hj2, heap_setCell_ne _ _ _ _ hj1, heap_setCell_ne _ _ _ _ hj1, heap_setCell_ne _ _ _ _ hj1, heap_setCell_ne _ _ _ _ hj1]
 refine ⟨?_, ?_, fun j hj1 hj2 _ => hblk j hj1 hj2, fun kl => ⟨rfl, rfl, rfl, by simp, fun j hj _ _ => hblk j (by omega) (by omega)⟩⟩
 ·
  have h := ((((h1.set 0 (.int .u64 (E : Int))).set 1 (.slice (A 0) (n 0) (c 0))).set 2 (.slice (A 1) (n 1) (c 1))).set 3 (.slice (A 2) (n 2) (c 2))).setNe (g2 := W.heap.size + 1 + 1) (o := 0) (v := .int .i64 0) (by omega)
  simpa [limC] using h
 ·
  have h := ((((h2.setNe (g2 := W.heap.size + 1) (o := 0) (v := .int .u64 (E : Int)) (by omega)).setNe (g2 := W.heap.size + 1) (o := 1) (v := .slice (A 0) (n 0) (c 0)) (by omega)).setNe (g2 := W.heap.size + 1) (o := 2) (v := .slice (A 1) (n 1) (c 1)) (by omega)).setNe (g2 := W.heap.size + 1) (o := 3) (v := .slice (A 2) (n 2) (c 2)) (by omega)).set 0 (.int .i64 0)
  simpa using h
theorem tries_yes (kl B : Nat) (A : Nat → Option Addr) (n c : Nat → Nat) (l : Lim) (g : Nat) (lb : Array Value) (W : World) (hgc : ∀ args w, (callFunc g args).run Tryz.prog w = .ok (.enter g args) w) (h : LimRd W B A n l.r) (hB : B ≤ W.heap.size) (hm : ∀ k, k < 3 → n k ≤ 4096)
  (hg : ∀ k, k < 3 → ∀ e ∈ l.r k, 0 ≤ e.2 ∧ e.2 < 18446744073709551616) (ho : l.ok = true)
  (G : Lim → Prop) (F : Int → World → Prop) (X : Lim → World → Prop) (hX : ∀ l' w w', X l' w → (∀ j, j ≠ W.heap.size + 1 → j ≠ W.heap.size + 1 + 1 → j < w.heap.size → w'.heap[j]? = w.heap[j]?) → X l' w') (hF : ∀ k w w', F k w → (∀ j, j ≠ W.heap.size + 1 → j ≠ W.heap.size + 1 + 1 → j < w.heap.size → w'.heap[j]? = w.heap[j]?) → F k w') (hkl : kl ≤ W.heap.size)
  (HC : ∀ w gx A' c', ChAt w gx (gx + 1) l A' n c' → Below W.heap.size W w → W.heap.size + 1 + 1 < gx → Calls Tryz.prog g (#[.pointer (some ⟨gx, 0, none⟩)] ++ lb) w (DoesRes kl gx (gx + 1) G F X w)) :
  Calls Tryz.prog 135 #[.agg (limC l.E A n c), .func (.func g) #[] lb] W (TrRes kl W.heap.size G F X W) := by
 have hE : l.E ≤ LAST := (ok_out ho).1
 have hE2 : l.E < 18446744073709551616 := by unfold LAST at hE; omega
 have HCL := Hi HC
 have HX := Hi hX
 have HFS := Hi hF
 have H := Hi h
 have HM := Hi hm
 clear HC hX hF hE
 obtain ⟨w1, hw1⟩ : ∃ w1, W.alloc (.cells (limC l.E A n c) 32) = w1 := ⟨_, rfl⟩
 obtain ⟨w2, hw2⟩ : ∃ w2, w1.alloc (.cells zeroC 32) = w2 := ⟨_, rfl⟩
 obtain ⟨w3, hw3⟩ : ∃ w3, w2.alloc (.cells #[.int .i64 0] 44) = w3 := ⟨_, rfl⟩
 have s1 : w1.heap.size = W.heap.size + 1 := by rw [← hw1]; simp
 have s2 : w2.heap.size = W.heap.size + 1 + 1 := by rw [← hw2]; simp [s1]
 have b1 := baw hw1
 have b2 := baw hw2
 have b3 := baw hw3
 have r1 : RowAt w3 W.heap.size 32 (limC l.E A n c) := by have h := RowAt.new W 32 (limC l.E A n c); rw [hw1] at h; exact (h.below b2).below b3
 have r2 : RowAt w3 (W.heap.size + 1) 32 zeroC := by have h := RowAt.new w1 32 zeroC; rw [hw2, s1] at h; exact h.below b3
 have r3 : RowAt w3 (W.heap.size + 1 + 1) 44 #[.int .i64 0] := by have h := RowAt.new w2 44 #[.int .i64 0]; rw [hw3, s2] at h; exact h
 have hb0 : Below W.heap.size W w3 := (b1.trans (b2.mono b1.size)).trans (b3.mono (by omega))
 have HC := Hi (check_any B A n c l w3 (h.below (hb0.mono hB)) hE2 (Nat.le_trans hB hb0.size) hm hg 0 (by rw [ho]; rfl))
 have HB := Hi hb0
 have R1 := Hi r1
 have R2 := Hi r2
 have R3 := Hi r3
 clear b1 b2 b3 hb0 r1 r2 r3 h ho s1 s2 hm hE2 hg
 subst hw3
 subst hw2
 subst hw1
 go_enter_defers Tryz.func135, Tryz.ntmps135
 go_wp2_with fail
 generalize ((W.alloc _).alloc _).alloc _ = w3 at *
 with_reducible refine HC.out.mono ?_
 rintro e w4 ⟨rfl, hb⟩
 have R1 := Hi (R1.out.below hb)
 have R2 := Hi (R2.out.below hb)
 have R3 := Hi (R3.out.below hb)
 have HB := bt HB hb
 clear hb HC
 have q0 := cl R1.out 0
 have q1 := cl R1.out 1
 have q2 := cl R1.out 2
 have q3 := cl R1.out 3
 have ql := R1.out.lt
 go_wp2_with fail
 refine (need_ok 240 _).mono ?_
 rintro e w5 ⟨rfl, rfl⟩
 dsimp only
 have HRX := Hi (RowAt.new w4 160 (limC l.E A n c))
 have HBX := Hi (show Below w4.heap.size w4 (w4.alloc (.cells (limC l.E A n c) 160)) from (Below.refl _ _).alloc (Nat.le_refl _) _)
 have R1 := Hi (R1.out.below HBX.out)
 have hgx : W.heap.size + 1 + 1 < w4.heap.size := R3.out.lt
 go_wp2_with fail
 obtain ⟨gx, hgxe⟩ : ∃ gx, w4.heap.size = gx := ⟨_, rfl⟩
 rw [hgxe] at HRX HBX hgx ⊢
 have HRB := Hi R2.out
 have HCP0 := Hi (show CpEx w4 (w4.alloc (.cells (limC l.E A n c) 160)) gx 0 l A n c from ⟨A, c, HRX.out, fun k h => by omega, fun j k h => by omega, HBX.out⟩)
 generalize w4.alloc (.cells (limC l.E A n c) 160) = wX at *
 clear q0 q1 q2 q3 ql
 go_loopw [19] (fun i wr => ∃ (k : Nat), k ≤ 3 ∧ i = .int .i64 (k : Int) ∧ CpEx w4 wr gx k l A n c) (fun i _ => 3 - (intOf i).toNat)
 case atStart => exact ⟨0, by omega, rfl, HCP0.out⟩
 case round =>
  obtain ⟨k, hk, rfl, hcp⟩ := hrel
  have HCP := Hi hcp
  clear hcp
  by_cases hlt : k < 3
  ·
   obtain ⟨A', c', hcp⟩ := HCP.out
   have hki : (k : Int) < 3 := by omega
   have hix := index_rows A n c k hlt
   have hc0 := limC_cell hcp.row hlt
   have hcl := hcp.row.lt
   have hcf := hcp.row.frozen (1 + k)
   obtain ⟨i0, hi0, hz0, hz1, hz2⟩ := info_parts elE.info
   have hmk := fun w => run_make_rowN (P := Tryz.prog) 29 41 i0 _ Tryz.underlying29 hi0 hz0 .i64 .i64 (n k) (n k) (Nat.le_refl _) (by rw [hz2]; have := HM.out k hlt; omega) (by have := HM.out k hlt; omega) w
   rw [hz1] at hmk
   have HCPk := Hi hcp
   clear hi0 hz0 hz1 hz2 hcp
   go_wp2_with fail
   go_region
   obtain ⟨M, hM⟩ : ∃ M, madeCells #[.int .i64 0, .int .u64 0] (n k * 2) = M := ⟨_, rfl⟩
   have hMs : M.size = n k * 2 := by rw [← hM]; simp [madeCells]
   rw [hM]
   obtain ⟨gs, hgs⟩ : ∃ gs, wr.heap.size = gs := ⟨_, rfl⟩
   rw [hgs]
   rw [hgs] at hcl
   have HRX2 : Hid (RowAt ((wr.setCell ⟨gx, 1 + k, none⟩ (.slice (some ⟨gs, 0, none⟩) (n k) (n k))).alloc (.cells M 41)) gx 160 ((limC l.E A' n c').setIfInBounds (1 + k) (.slice (some ⟨gs, 0, none⟩) (n k) (n k)))) := Hi (by
    have h := HCPk.out.row.set (1 + k) (.slice (some ⟨gs, 0, none⟩) (n k) (n k))
    exact h.below ((Below.refl _ _).alloc (Nat.le_refl _) _))
   have HRS2 : Hid (RowAt ((wr.setCell ⟨gx, 1 + k, none⟩ (.slice (some ⟨gs, 0, none⟩) (n k) (n k))).alloc (.cells M 41)) gs 41 M) := Hi (by
    have h := RowAt.new (wr.setCell ⟨gx, 1 + k, none⟩ (.slice (some ⟨gs, 0, none⟩) (n k) (n k))) 41 M
    simpa [hgs] using h)
   have HKB2 : Hid (∀ j, j ≠ gx → j < gs → ((wr.setCell ⟨gx, 1 + k, none⟩ (.slice (some ⟨gs, 0, none⟩) (n k) (n k))).alloc (.cells M 41)).heap[j]? = wr.heap[j]?) := Hi (fun j hj hl => by
    rw [Below.heap_alloc _ _ _ (by simp [hgs]; exact hl), heap_setCell_ne _ _ _ _ hj])
   have HBL2 : Hid (Below gx wr ((wr.setCell ⟨gx, 1 + k, none⟩ (.slice (some ⟨gs, 0, none⟩) (n k) (n k))).alloc (.cells M 41))) := Hi (((Below.refl _ _).setCell (p := ⟨gx, 1 + k, none⟩) (Nat.le_refl _) _).alloc (by simp [hgs]; omega) _)
   generalize (wr.setCell _ _).alloc _ = w7 at *
   have HRX2 := Hi HRX2.out.drew
   have HRS2 := Hi HRS2.out.drew
   have HKB2 : Hid (∀ j, j ≠ gx → j < gs → w7.drew.heap[j]? = wr.heap[j]?) := Hi HKB2.out
   have HBL2 : Hid (Below gx wr w7.drew) := Hi HBL2.out.drew
   generalize w7.drew = w8 at *
   have hc8 : w8.cell? ⟨gx, 1 + k, none⟩ = some (.slice (some ⟨gs, 0, none⟩) (n k) (n k)) := by
    rw [HRX2.out.cell, Array.getElem?_setIfInBounds, if_pos rfl, if_pos (by simp [limC]; omega)]
   have hl8 := HRX2.out.lt
   have HRD8 := Hi (H.out.below ((HB.out.trans ((HCPk.out.below.trans HBL2.out).mono (by omega))).mono hB))
   clear hix hc0 hcf hmk hM
   go_wp2_with (refine wpList_copyAny rfl _ _ 29 29 rfl 41 2 Tryz.underlying29 (by kernel_rfl) gs (n k) (n k) (c k) B (A k) rfl rfl M 41 HRS2.out (Cs encE (l.r k)) (HRD8.out.rd k hlt) (by rw [(HRD8.out.rd k hlt).1, hMs]) (Cs_one_cell encE_one _) ?_; intro w9 hrow9 hp9)
   have HN := Hi (HCPk.out.next (w8 := w9) hlt gs (by omega) (fun j hj hl => by rw [hp9.block j (by omega) (by have := HBL2.out.size; omega)]; exact HKB2.out j hj (by omega)) (HBL2.out.trans (hp9.below.mono (by omega)))
    (HRX2.out.past hp9 (by omega)) (OwnO.of_own ⟨by rw [Cs_length encE_len, H.out.len k hlt], .inr ⟨gs, n k, _, rfl, by omega, hrow9, Nat.le_refl _, by have := HM.out k hlt; unfold maxLen; omega, by simp [Cs_length encE_len, H.out.len k hlt], by
     rw [List.toList_toArray, List.take_of_length_le (by rw [Cs_length encE_len, H.out.len k hlt]; exact Nat.le_refl _)]⟩⟩))
   go_wp2_with fail
   go_roundw
   case rel => exact ⟨k + 1, by omega, by go_num, ⟨_, _, HN.out⟩⟩
   case measure => simp [intOf]; omega
  ·
   obtain rfl : k = 3 := by omega
   obtain ⟨A', c', hcp⟩ := HCP.out
   have hCH : ChAt wr gx (gx + 1) l A' n c' := ⟨hcp.row, ⟨fun k hk => hcp.own k hk hk, H.out.len, fun j k hj hk => hcp.apart j k hj hk hj hk⟩, by omega⟩
   have HBW := Hi (HB.out.trans (hcp.below.mono (by omega)))
   have HCC := Hi (HCL.out wr gx A' c' hCH HBW.out hgx)
   have R2 := Hi (show RowAt wr (W.heap.size + 1) 32 zeroC from (hcp.below.block _ (by omega)).trans R2.out)
   have R3 := Hi (show RowAt wr (W.heap.size + 1 + 1) 44 #[.int .i64 0] from (hcp.below.block _ (by omega)).trans R3.out)
   clear hcp hCH HRB HCP HCP0
   go_wp2_with fail
   refine HCC.out.mono ?_
   rintro e w9 ⟨hp9, hres⟩
   have hs9 := hp9.size
   have hsr := R3.out.lt
   have R2 := Hi (show RowAt w9 (W.heap.size + 1) 32 zeroC from (hp9.block _ (by omega) (by omega) (by omega)).trans R2.out)
   have R3 := Hi (show RowAt w9 (W.heap.size + 1 + 1) 44 #[.int .i64 0] from (hp9.block _ (by omega) (by omega) (by omega)).trans R3.out)
   have HP9 := Hi (show PastK kl W.heap.size W w9 from (PastK.of_below HBW.out (Nat.le_refl _)).trans (hp9.less (by omega)))
   clear hp9
   rcases hres with ⟨rfl, l', A9, n9, c9, hch, hG, hX9⟩ | ⟨k, rfl, hF⟩
   ·
    have x0 : w9.cell? ⟨gx, 0, none⟩ = some (.int .u64 (l'.E : Int)) := by have := hch.row.cell 0; simpa [limC] using this
    have x1 := cl hch.row 1
    have x2 := cl hch.row 2
    have x3 := cl hch.row 3
    have xl := hch.row.lt
    have z0 := cl R2.out 0
    have z1 := cl R2.out 1
    have z2 := cl R2.out 2
    have z3 := cl R2.out 3
    have zl := R2.out.lt
    have f0 := R2.out.frozen 0
    have f1 := R2.out.frozen 1
    have f2 := R2.out.frozen 2
    have f3 := R2.out.frozen 3
    have y0 := row1 R3.out
    have yl := R3.out.lt
    have yf := R3.out.frozen 0
    have HCH := Hi hch
    have HX9 := Hi hX9
    clear hch hX9
    have HLA : Hid (LaidR W w9 l'.E A9 n9 c9 ((((((w9.setCell ⟨W.heap.size + 1, 0, none⟩ (.int .u64 (l'.E : Int))).setCell ⟨W.heap.size + 1, 1, none⟩ (.slice (A9 0) (n9 0) (c9 0))).setCell ⟨W.heap.size + 1, 2, none⟩ (.slice (A9 1) (n9 1) (c9 1))).setCell ⟨W.heap.size + 1, 3, none⟩ (.slice (A9 2) (n9 2) (c9 2))).setCell ⟨W.heap.size + 1 + 1, 0, none⟩ (.int .i64 0)))) := Hi (laid_of R2.out R3.out)
    go_wp2_with fail
    generalize ((((w9.setCell _ _).setCell _ _).setCell _ _).setCell _ _).setCell _ _ = wF at *
    refine leaves_cons (f := 153) (args := #[.pointer (some ⟨W.heap.size + 1, 0, none⟩), .pointer (some ⟨W.heap.size + 1 + 1, 0, none⟩)]) (by simp) (by simp [go_sem]) ?_
    refine (catch_idle ⟨W.heap.size + 1, 0, none⟩ ⟨W.heap.size + 1 + 1, 0, none⟩ _).mono ?_
    rintro e u' w'' ⟨rfl, rfl, rfl⟩
    have z0 := cl HLA.out.out 0
    have z1 := cl HLA.out.out 1
    have z2 := cl HLA.out.out 2
    have z3 := cl HLA.out.out 3
    simp [Leaves, settle, results, Tryz.results135, go_sem, z0, z1, z2, z3, row1 HLA.out.err, HLA.out.out.lt, HLA.out.err.lt]
    exact ⟨HP9.out.trans (HLA.out.past kl), .inl ⟨l', A9, n9, c9, rfl, (HCH.out.own.other (fun g h1 h2 => HLA.out.block g (by omega) (by omega) h2)).lower (by omega), hG, HX.out _ _ _ HX9.out HLA.out.block⟩⟩
   ·
    dsimp only
    refine leaves_cons (f := 153) (args := #[.pointer (some ⟨W.heap.size + 1, 0, none⟩), .pointer (some ⟨W.heap.size + 1 + 1, 0, none⟩)]) (by simp) (by simp [go_sem]) ?_
    refine (catch_err (W.heap.size + 1) (W.heap.size + 1 + 1) k w9 R2.out R3.out (by omega)).mono ?_
    rintro e u' w10 ⟨rfl, rfl, hC⟩
    have z0 := cl hC.out 0
    have z1 := cl hC.out 1
    have z2 := cl hC.out 2
    have z3 := cl hC.out 3
    have hfin : PastK kl W.heap.size W w10 := HP9.out.trans ⟨hC.os, hC.tape, hC.output, by rw [hC.size]; exact Nat.le_refl _, fun j hj _ _ => hC.block j (by omega) (by omega)⟩
    simp [Leaves, settle, results, Tryz.results135, go_sem, z0, z1, z2, z3, row1 hC.err, hC.out.lt, hC.err.lt]
    exact ⟨hfin, .inr ⟨k, rfl, HFS.out _ _ _ hF (fun j h1 h2 _ => hC.block j h1 h2)⟩⟩
end Go.Proofs.YtkicidopjihjmaaGreat.Li
set_option maxRecDepth 20000
namespace Go.Proofs.YtkicidopjihjmaaGreat.Li
open Go Go.RowKit
attribute [local go_sem] via_cell via_frozen
theorem step_appO {P : Program} {t e : TypeId} {size bytes : Nat} {z : Value} {ops : Array Oper} {o : Oper} {a : Act} {Q : Exit → Act → World → Prop} {w : World} {EE : Prop} (E : ElemOk P t e size bytes z) {K : Act → World → Prop} (hgd : o.guard = none) (s x : Operand) (ho : o.op = .call { callee := .builtin .append, args := #[s, x], argTypes := #[t, t] })
  {base n : Nat} {xs : List Value} {v : Value} (hs : a.eval s = v) (hown : OwnO w base e size v n xs)
  {B : Nat} {A : Option Addr} {m c : Nat} {news : List Value} (hx : a.eval x = .slice A m c) (hr : Rd w B size A m news) (h1 : ∀ u ∈ news, u.oneCell' = true)
  (hb : (n + m) * bytes ≤ 140737488355328) (hbase : base ≤ w.heap.size)
  (h : ∀ v' w', OwnO w' base e size v' (n + m) (xs ++ news) → Below base w w' → w.grownBy w' v.ownBlock → (v'.ownBlock = v.ownBlock ∨ v'.ownBlock = some w.heap.size) → K (a.put o.dst v') w') :
  if Region.wanted o (yielded ops a.tmps) = true then Oper.wp P o a w K Q else EE := by
 have hw : Region.wanted o (yielded ops a.tmps) = true := by simp [Region.wanted, hgd]
 rw [if_pos hw]
 exact wp_appO E s x ho hs hown hx hr h1 hb hbase h
theorem row_grown {w w' : World} {g : Nat} {t : TypeId} {cs : Array Value} {row : Option Nat} (h : RowAt w g t cs) (hg : w.grownBy w' row) (hne : some g ≠ row) : RowAt w' g t cs := (hg.block g h.lt hne).trans h
theorem retcl_any (gb : Nat) (s g : Int) (x : Ent) (w : World) (h : RowAt w gb 41 #[.int .i64 s, .int .u64 g]) :
  Calls Tryz.prog 156 #[entV x, .pointer (some ⟨gb, 0, none⟩)] w fun e w' => e = .returned (.bool (x.1 == s)) ∧ Below w.heap.size w w' := by
 obtain ⟨x1, x2⟩ := x
 have HB := Hi (show Below w.heap.size w (w.alloc (.cells #[.int .i64 x1, .int .u64 x2] 41)) from (Below.refl _ _).alloc (Nat.le_refl _) _)
 have q0 := row20 h
 have ql := h.lt
 clear h
 unfold entV
 dsimp only
 go_enter Tryz.func156, Tryz.ntmps156
 go_wp2
 go_ret
 exact ⟨rfl, HB.out⟩
structure ChFr (gx : Nat) (A A' : Nat → Option Addr) (w w' : World) : Prop where
 os : w'.os = w.os
 tape : w'.tape = w.tape
 output : w'.output = w.output
 size : w.heap.size ≤ w'.heap.size
 block : ∀ j, j < w.heap.size → j ≠ gx → (∀ k p, k < 3 → A k = some p → p.block ≠ j) → w'.heap[j]? = w.heap[j]?
 rows : ∀ k p, k < 3 → A' k = some p → (∃ q, A k = some q ∧ q.block = p.block) ∨ w.heap.size ≤ p.block
theorem ChFr.of_below {gx : Nat} {A : Nat → Option Addr} {w w' : World} (h : Below w.heap.size w w') : ChFr gx A A w w' := ⟨h.os, h.tape, h.output, h.size, fun j hj _ _ => h.block j hj, fun k p _ hp => .inl ⟨p, hp, rfl⟩⟩
theorem ChFr.past {gx base : Nat} {l : Lim} {A A' : Nat → Option Addr} {n c : Nat → Nat} {w w' : World} (kl : Nat) (h : ChFr gx A A' w w') (hc : ChAt w gx base l A n c) : PastK kl gx w w' :=
 ⟨h.os, h.tape, h.output, h.size, fun j hj _ hl => h.block j hl (by omega) (fun k p hk hp => by have := ((hc.own.own k hk).fresh hp).1; have := hc.lt; omega)⟩
def OpRes (gx : Nat) (A : Nat → Option Addr) (l' : Lim) (w w' : World) : Prop := ∃ A' n' c', ChAt w' gx (gx + 1) l' A' n' c' ∧ ChFr gx A A' w w'
theorem lens_ok {l : Lim} {n : Nat → Nat} (ho : l.ok = true) (hn : ∀ k, k < 3 → (l.r k).length = n k) : ∀ k, k < 3 → n k ≤ 128 := fun k hk => by rw [← hn k hk]; exact row_len ho hk
theorem ChAt.put {w w8 : World} {gx k : Nat} {l : Lim} {A : Nat → Option Addr} {n c : Nat → Nat} (h : ChAt w gx (gx + 1) l A n c) (hk : k < 3) (A1 : Option Addr) (n1 c1 : Nat) (xs : List Ent)
  (hrow : RowAt w8 gx 160 ((limC l.E A n c).setIfInBounds (1 + k) (.slice A1 n1 c1))) (hown : OwnO w8 (gx + 1) 41 2 (.slice A1 n1 c1) n1 (Cs encE xs)) (hx : xs.length = n1)
  (hkeep : ∀ j, j < 3 → j ≠ k → OwnO w8 (gx + 1) 41 2 (.slice (A j) (n j) (c j)) (n j) (Cs encE (l.r j)))
  (hap : ∀ j, j < 3 → j ≠ k → ∀ p q, A j = some p → A1 = some q → p.block ≠ q.block) :
  ChAt w8 gx (gx + 1) ⟨l.E, upd l.r k xs⟩ (fun j => if j = k then A1 else A j) (fun j => if j = k then n1 else n j) (fun j => if j = k then c1 else c j) := by
 refine ⟨?_, ⟨fun j hj => ?_, fun j hj => ?_, fun i j hi hj hne p q hp hq => ?_⟩, h.lt⟩
 ·
  have e : (limC l.E A n c).setIfInBounds (1 + k) (.slice A1 n1 c1) = limC l.E (fun j => if j = k then A1 else A j) (fun j => if j = k then n1 else n j) (fun j => if j = k then c1 else c j) := by
   match k, hk with
   | 0, _ => rfl
   | 1, _ => rfl
   | 2, _ => rfl
  rw [e] at hrow
  exact hrow
 ·
  by_cases hjk : j = k
  · subst hjk; simpa [upd] using hown
  · simpa [upd, hjk] using hkeep j hj hjk
 ·
  by_cases hjk : j = k
  · subst hjk; simpa [upd] using hx
  · simpa [upd, hjk] using h.own.len j hj
 ·
  by_cases hik : i = k
  ·
   have hjk : j ≠ k := by omega
   simp only [if_pos hik] at hp
   simp only [if_neg hjk] at hq
   exact fun e => hap j hj hjk q p hq hp e.symm
  ·
   by_cases hjk : j = k
   ·
    simp only [if_neg hik] at hp
    simp only [if_pos hjk] at hq
    exact hap i hi hik p q hp hq
   ·
    simp only [if_neg hik] at hp
    simp only [if_neg hjk] at hq
    exact h.own.apart i j hi hj hne p q hp hq
theorem row2_any (g E : Nat) (u0 u1 u2 : Value) (hE : E ≤ LAST) (W : World) (h : RowAt W g 160 #[.int .u64 (E : Int), u0, u1, u2]) :
  Calls Tryz.prog 124 #[.pointer (some ⟨g, 0, none⟩), .int .u64 2] W fun e W' => e = .returned (.pointer (some ⟨g, 1 + rowN E 2, none⟩)) ∧ Below W.heap.size W W' := row_any g E 2 u0 u1 u2 (by omega) hE W h
theorem row0_any (g E : Nat) (u0 u1 u2 : Value) (hE : E ≤ LAST) (W : World) (h : RowAt W g 160 #[.int .u64 (E : Int), u0, u1, u2]) :
  Calls Tryz.prog 124 #[.pointer (some ⟨g, 0, none⟩), .int .u64 0] W fun e W' => e = .returned (.pointer (some ⟨g, 1 + rowN E 0, none⟩)) ∧ Below W.heap.size W W' := row_any g E 0 u0 u1 u2 (by omega) hE W h
theorem advance_any (gx : Nat) (l : Lim) (A : Nat → Option Addr) (n c : Nat → Nat) (w : World) (h : ChAt w gx (gx + 1) l A n c) (ho : l.ok = true) :
  Calls Tryz.prog 141 #[.pointer (some ⟨gx, 0, none⟩)] w fun e w' =>
   (e = .returned (.tuple #[]) ∧ ∃ l', doAdv l = .ok l' ∧ OpRes gx A l' w w') ∨ (∃ k, e = .panicked (errX k) ∧ doAdv l = .error k ∧ PastK gx gx w w') := by
 have hE := (ok_out ho).1
 have hEL : (l.E : Int) ≤ 4611686018427387904 := by unfold LAST at hE; omega
 have HRC := Hi (row2_any gx l.E (.slice (A 0) (n 0) (c 0)) (.slice (A 1) (n 1) (c 1)) (.slice (A 2) (n 2) (c 2)) hE w h.row)
 have H := Hi h
 have HN := Hi (lens_ok ho h.own.len)
 clear h
 go_enter Tryz.func141, Tryz.ntmps141
 go_wp2_with fail
 with_reducible refine HRC.out.mono ?_
 rintro e w1 ⟨rfl, hb1⟩
 have H1 := Hi (H.out.below hb1)
 have HB1 := Hi hb1
 have hk3 := rowN_lt l.E 2
 have hc1 := limC_cell H1.out.row hk3
 have hl1 := H1.out.row.lt
 have HLN := Hi (show (l.at 2).length = n (rowN l.E 2) from H1.out.own.len _ hk3)
 clear hb1 HRC
 generalize rowN l.E 2 = kk at *
 by_cases hz : l.at 2 = []
 ·
  have hn0 : n kk = 0 := by rw [← HLN.out, hz]; rfl
  rw [hn0] at hc1
  have hd : (((0 : Nat) : Int) == 0) = true := rfl
  go_wp2_with fail
  refine (need_ok 241 _).mono ?_
  rintro e w2 ⟨rfl, rfl⟩
  have q0 := cl H1.out.row 0
  have qf := H1.out.row.frozen 0
  by_cases hlt : l.E < LAST
  ·
   have hd2 : decide ((l.E : Int) < 4611686018427387904) = true := by unfold LAST at hlt; simp; omega
   have hw1 : IntKind.u64.wrap ((l.E : Int) + 1) = (l.E : Int) + 1 := IntWalk.u64_in _ (by omega)
   have HF := Hi (show doAdv l = .ok ⟨l.E + 1, l.r⟩ from by unfold doAdv; rw [if_neg (by simpa using hz), if_pos hlt])
   clear hlt hz
   go_wp2_with fail
   refine (need_ok 6 _).mono ?_
   rintro e w2 ⟨rfl, rfl⟩
   dsimp only
   go_wp2_with fail
   go_end0
   refine .inl ⟨rfl, _, HF.out, A, n, c, ⟨?_, H1.out.own.other (fun g h1 h2 => heap_setCell_ne _ _ _ _ (by show g ≠ gx; omega)), by omega⟩, ⟨HB1.out.os, HB1.out.tape, HB1.out.output, by have := HB1.out.size; simpa using this, fun j hj hne _ => (heap_setCell_ne _ _ _ _ hne).trans (HB1.out.block j hj), fun k p _ hp => .inl ⟨p, hp, rfl⟩⟩⟩
   have hr := H1.out.row.set 0 (.int .u64 ((l.E : Int) + 1))
   have hcast : ((l.E + 1 : Nat) : Int) = (l.E : Int) + 1 := by omega
   show RowAt _ gx 160 (limC (l.E + 1) A n c)
   unfold limC
   rw [hcast]
   simpa [limC] using hr
  ·
   have hd2 : decide ((l.E : Int) < 4611686018427387904) = false := by unfold LAST at hlt; simp; omega
   have HF := Hi (show doAdv l = .error 6 from by unfold doAdv; rw [if_neg (by simpa using hz), if_neg hlt])
   clear hlt hz
   go_wp2_with fail
   refine (need_no 6 _).mono ?_
   rintro e w2 ⟨rfl, rfl⟩
   exact ⟨rfl, .inr ⟨6, rfl, HF.out, PastK.of_below HB1.out (by have := H.out.row.lt; omega)⟩⟩
 ·
  have hn0 : ¬ ((n kk : Int) = 0) := by
   have := HLN.out
   have : 0 < (l.at 2).length := List.length_pos_iff.2 hz
   omega
  have hd : ((n kk : Int) == 0) = false := by simpa using hn0
  have HF := Hi (show doAdv l = .error 241 from by unfold doAdv; rw [if_pos hz])
  clear hn0 hz
  go_wp2_with fail
  refine (need_no 241 _).mono ?_
  rintro e w2 ⟨rfl, rfl⟩
  exact ⟨rfl, .inr ⟨241, rfl, HF.out, PastK.of_below HB1.out (by have := H.out.row.lt; omega)⟩⟩
theorem OwnO.empty {w : World} {base : Nat} {e : TypeId} {sz n cap g o : Nat} {xs : List Value} (h : OwnO w base e sz (.slice (some ⟨g, o, none⟩) n cap) n xs) : OwnO w base e sz (.slice (some ⟨g, o, none⟩) 0 0) 0 [] := by
 rcases h.2 with ⟨h1, _⟩ | ⟨g', o', cap', cur, hv, hg, hh, hn, hc, hs, ht⟩
 · cases h1
 ·
  injection hv with h1 _ h2
  injection h1 with h1
  injection h1 with h1 h3
  subst h1; subst h3
  exact ⟨by simp, .inr ⟨g, o, 0, cur, rfl, hg, hh, Nat.le_refl _, Nat.zero_le _, by omega, by simp⟩⟩
theorem take_any (gx : Nat) (l : Lim) (A : Nat → Option Addr) (n c : Nat → Nat) (w : World) (h : ChAt w gx (gx + 1) l A n c) (ho : l.ok = true) :
  Calls Tryz.prog 139 #[.pointer (some ⟨gx, 0, none⟩)] w fun e w' =>
   (∃ l' x, e = .returned (entV x) ∧ doTake l = .ok (l', x) ∧ OpRes gx A l' w w') ∨ (∃ k, e = .panicked (errX k) ∧ doTake l = .error k ∧ PastK gx gx w w') := by
 have hE := (ok_out ho).1
 have HBN := Hi (show Below w.heap.size w (w.alloc (.cells #[.int .i64 0, .int .u64 0] 41)) from (Below.refl _ _).alloc (Nat.le_refl _) _)
 have HRN := Hi (RowAt.new w 41 #[.int .i64 0, .int .u64 0])
 have H0 := Hi (h.below HBN.out)
 have HRC := Hi (row2_any gx l.E (.slice (A 0) (n 0) (c 0)) (.slice (A 1) (n 1) (c 1)) (.slice (A 2) (n 2) (c 2)) hE _ H0.out.row)
 have HN := Hi (lens_ok ho h.own.len)
 have hgw := h.row.lt
 have H := Hi h
 clear h hE
 go_enter Tryz.func139, Tryz.ntmps139
 go_wp2_with fail
 generalize w.alloc _ = w0 at *
 with_reducible refine HRC.out.mono ?_
 rintro e w1 ⟨rfl, hb1⟩
 have H1 := Hi (H0.out.below hb1)
 have HB1 := bt HBN hb1
 have HR1 := Hi (HRN.out.below hb1)
 have hk3 := rowN_lt l.E 2
 have hc1 := limC_cell H1.out.row hk3
 have hl1 := H1.out.row.lt
 have HO := Hi (H1.out.own.own _ hk3)
 have HLN := Hi (show (l.at 2).length = n (rowN l.E 2) from H1.out.own.len _ hk3)
 have HNK := Hi (HN.out _ hk3)
 have HAT := Hi (show l.at 2 = l.r (rowN l.E 2) from rfl)
 have HKK := Hi (show rowN l.E 2 = rowN l.E 2 from rfl)
 obtain ⟨kk, hkk⟩ : ∃ kk, rowN l.E 2 = kk := ⟨_, rfl⟩
 rw [hkk] at hc1 hk3 HO HLN HAT HNK ⊢
 have HKN := Hi hkk
 clear hb1 HRC H0 HKK hkk
 obtain ⟨AA, hAA⟩ : ∃ AA, A kk = AA := ⟨_, rfl⟩
 obtain ⟨m, hmm⟩ : ∃ m, n kk = m := ⟨_, rfl⟩
 obtain ⟨cc, hcc⟩ : ∃ cc, c kk = cc := ⟨_, rfl⟩
 obtain ⟨xs, hxs⟩ : ∃ xs, l.at 2 = xs := ⟨_, rfl⟩
 have HAA := Hi hAA
 have HMM := Hi hmm
 have HXS := Hi hxs
 rw [hAA, hmm, hcc] at hc1
 rw [hxs] at HLN HAT
 rw [hmm] at HLN HNK
 rw [hAA, hmm, hcc, ← HAT.out] at HO
 clear hAA hmm hxs
 cases xs with
 | nil =>
  have hm0 : m = 0 := by rw [← HLN.out]; rfl
  subst hm0
  have hd : decide ((0 : Int) < ((0 : Nat) : Int)) = false := rfl
  have HF := Hi (show doTake l = .error 4 from by unfold doTake; rw [HXS.out])
  go_wp2_with fail
  refine (need_no 4 _).mono ?_
  rintro e w2 ⟨rfl, rfl⟩
  exact ⟨rfl, .inr ⟨4, rfl, HF.out, PastK.of_below HB1.out (by omega)⟩⟩
 | cons x rest =>
  have hm1 : rest.length + 1 = m := HLN.out
  have hm0 : (0 : Int) < (m : Int) := by omega
  have hm8 : (m : Int) ≤ 128 := by have := HNK.out; omega
  have hd : decide ((0 : Int) < (m : Int)) = true := by simpa using hm0
  have hdN : decide (0 < m) = true := by simp; omega
  have HF := Hi (show doTake l = .ok (⟨l.E, upd l.r kk rest⟩, x) from by unfold doTake; rw [HXS.out, HKN.out])
  obtain ⟨b, o, rfl, hb, d0, d1⟩ := HO.out.rd.ent HLN.out (k := 0) (by omega)
  simp only [Nat.zero_mul, Nat.add_zero, List.getD_cons_zero] at d0 d1
  obtain ⟨s, g⟩ := x
  dsimp only at d0 d1
  have hmc : m ≤ cc := by
   obtain ⟨_, _, e, h1, _⟩ := HO.out.form
   injection e with _ _ e3
   omega
  have hmc2 : (m : Int) ≤ (cc : Int) := by omega
  have hb1 : b < w1.heap.size := hb
  go_wp2_with fail
  refine (need_ok 4 _).mono ?_
  rintro e w2 ⟨rfl, rfl⟩
  dsimp only
  go_wp2_with fail
  go_region
  have HB2 := Hi (show Below w1.heap.size w1 (w1.alloc (.cells #[.int .i64 s, .int .u64 g] 41)).drew from ((Below.refl _ _).alloc (Nat.le_refl _) _).drew)
  have HRT := Hi (show RowAt (w1.alloc (.cells #[.int .i64 s, .int .u64 g] 41)).drew w1.heap.size 41 #[.int .i64 s, .int .u64 g] from (RowAt.new w1 41 _).drew)
  generalize (w1.alloc (.cells #[.int .i64 s, .int .u64 g] 41)).drew = w2 at *
  have H2 := Hi (H1.out.below HB2.out)
  have HR2 := Hi (HR1.out.below HB2.out)
  have HO2 := Hi (HO.out.keepB HB2.out)
  have HBW2 := Hi (HB1.out.trans (HB2.out.mono HB1.out.size))
  have hc2 := kept HB2.out hc1
  have hl2 := H2.out.row.lt
  have hcf := H2.out.row.frozen (1 + kk)
  have hxl : w.heap.size < w1.heap.size := HR1.out.lt
  have t0 := row20 HRT.out
  have t1 := row21 HRT.out
  have tl := HRT.out.lt
  have r0 := row20 HR2.out
  have r1 := row21 HR2.out
  have rl := HR2.out.lt
  have rf0 := HR2.out.frozen 0
  have rf1 := HR2.out.frozen 1
  have hne1 : ¬ gx = w1.heap.size := by omega
  have hne2 : ¬ gx = w.heap.size := by omega
  clear d0 d1 hc1 hb1 hb
  have HFIN : Hid (∀ (o' : Nat), OwnO w2 (gx + 1) 41 2 (.slice (some ⟨b, o', none⟩) (m - 1) (m - 1)) (m - 1) (Cs encE rest) →
    RowAt (((w2.setCell ⟨gx, 1 + kk, none⟩ (.slice (some ⟨b, o', none⟩) (m - 1) (m - 1))).setCell ⟨w.heap.size, 0, none⟩ (.int .i64 s)).setCell ⟨w.heap.size, 1, none⟩ (.int .u64 g)) w.heap.size 41 #[.int .i64 s, .int .u64 g] ∧
    OpRes gx A ⟨l.E, upd l.r kk rest⟩ w (((w2.setCell ⟨gx, 1 + kk, none⟩ (.slice (some ⟨b, o', none⟩) (m - 1) (m - 1))).setCell ⟨w.heap.size, 0, none⟩ (.int .i64 s)).setCell ⟨w.heap.size, 1, none⟩ (.int .u64 g))) := Hi (fun o' hown => by
   have hblk : ∀ j, j ≠ gx → j ≠ w.heap.size → (((w2.setCell ⟨gx, 1 + kk, none⟩ (.slice (some ⟨b, o', none⟩) (m - 1) (m - 1))).setCell ⟨w.heap.size, 0, none⟩ (.int .i64 s)).setCell ⟨w.heap.size, 1, none⟩ (.int .u64 g)).heap[j]? = w2.heap[j]? := fun j h1 h2 => by
    rw [heap_setCell_ne _ _ _ _ h2, heap_setCell_ne _ _ _ _ h2, heap_setCell_ne _ _ _ _ h1]
   have hbA : b < w.heap.size := ((H.out.own.own kk hk3).fresh (p := ⟨b, o, none⟩) HAA.out).2
   refine ⟨?_, ?_⟩
   ·
    have h := (((HR2.out.setNe (g2 := gx) (o := 1 + kk) (v := .slice (some ⟨b, o', none⟩) (m - 1) (m - 1)) (by omega)).set 0 (.int .i64 s)).set 1 (.int .u64 g))
    simpa using h
   ·
    refine ⟨_, _, _, H2.out.put hk3 (some ⟨b, o', none⟩) (m - 1) (m - 1) rest ?_ ?_ (by omega) (fun j hj hjk => ?_) (fun j hj hjk p q hp hq => ?_), ⟨?_, ?_, ?_, ?_, fun j hj hne _ => ?_, fun k p hk hp => ?_⟩⟩
    · exact ((H2.out.row.set (1 + kk) (.slice (some ⟨b, o', none⟩) (m - 1) (m - 1))).setNe (by omega)).setNe (by omega)
    ·
     refine hown.other fun g' h1 _ h3 => hblk g' (by omega) ?_
     simp [Value.ownBlock] at h3
     omega
    ·
     refine (H2.out.own.own j hj).other fun g' h1 _ h3 => hblk g' (by omega) ?_
     have := (H.out.own.own j hj).lt h3
     omega
    ·
     injection hq with hq
     have := H.out.own.apart j kk hj hk3 hjk p _ hp HAA.out
     rw [← hq]; exact this
    · exact HBW2.out.os
    · exact HBW2.out.tape
    · exact HBW2.out.output
    · have := HBW2.out.size; simpa using this
    · exact (hblk j hne (by omega)).trans (HBW2.out.block j hj)
    ·
     by_cases hkk : k = kk
     ·
      subst hkk
      simp only [if_pos rfl] at hp
      injection hp with hp
      exact .inl ⟨_, HAA.out, by rw [← hp]⟩
     ·
      simp only [if_neg hkk] at hp
      exact .inl ⟨p, hp, rfl⟩)
  have HTL := Hi (HO2.out.tail (k := 1) (m := m) (by omega) (Nat.le_refl _) hmc)
  have HEM := Hi HO2.out.empty
  have HRS := Hi (show (Cs encE ((s, g) :: rest)).drop (1 * 2) = Cs encE rest from rfl)
  rw [HRS.out] at HTL
  go_wp2_with fail
  focus
   have hr0 : rest = [] := List.eq_nil_of_length_eq_zero (by omega)
   subst hr0
   have hF := HFIN.out o
   have hm10 : m - 1 = 0 := by omega
   rw [hm10] at hF
   obtain ⟨hr9, hop⟩ := hF HEM.out
  rotate_left
  focus
   obtain ⟨hr9, hop⟩ := HFIN.out (o + 2) HTL.out
  rotate_left
  all_goals
   generalize ((w2.setCell _ _).setCell _ _).setCell _ _ = w9 at *
   refine bodyPost_ret (results_cell_row Tryz.results139 _ _ w.heap.size 41 #[.int .i64 s, .int .u64 g] (0, 0) _ rfl hr9 Tryz.underlying41 rfl (by kernel_rfl)) rfl ?_
   exact .inl ⟨_, s, g, rfl, HF.out, hop⟩
end Go.Proofs.YtkicidopjihjmaaGreat.Li
set_option maxRecDepth 20000
namespace Go.Proofs.YtkicidopjihjmaaGreat.Li
open Go Go.RowKit
attribute [local go_sem] via_cell via_frozen
theorem doRet_err2 {l : Lim} {e : Ent} (h : entB e = false) : doRet l e = .error 2 := by unfold doRet; rw [if_pos h]
theorem doRet_err5 {l : Lim} {e : Ent} {k : Nat} (h : entB e = true) (hk : k < 3) (hh : hasB (l.r k) e.1 = true) : doRet l e = .error 5 := by
 unfold doRet
 rw [if_neg (by rw [h]; simp)]
 have : (hasB (l.r 0) e.1 || (hasB (l.r 1) e.1 || hasB (l.r 2) e.1)) = true := by
  match k, hk with
  | 0, _ => simp [hh]
  | 1, _ => simp [hh]
  | 2, _ => simp [hh]
 rw [if_pos this]
theorem doRet_ok {l : Lim} {e : Ent} (h : entB e = true) (hh : ∀ k, k < 3 → hasB (l.r k) e.1 = false) : doRet l e = .ok ⟨l.E, upd l.r (rowN l.E 0) (l.r (rowN l.E 0) ++ [e])⟩ := by
 unfold doRet
 rw [if_neg (by rw [h]; simp), if_neg (by rw [hh 0 (by omega), hh 1 (by omega), hh 2 (by omega)]; simp)]
 rfl
theorem own_block {A : Option Addr} {n c : Nat} {j : Nat} : some j = Value.ownBlock (.slice A n c) ↔ ∃ p, A = some p ∧ p.block = j := by
 cases A with
 | none => simp [Value.ownBlock]
 | some p => simp [Value.ownBlock, eq_comm]
theorem OpRes.append {w w5 w6 : World} {gx kk : Nat} {l : Lim} {A : Nat → Option Addr} {n c : Nat → Nat} {A2 : Option Addr} {c2 : Nat} {x : Ent} {o : Obj} (H : ChAt w gx (gx + 1) l A n c) (HB : Below w.heap.size w w5) (hk : kk < 3)
  (hg : (w5.drew.alloc o).grownBy w6 (Value.ownBlock (.slice (A kk) (n kk) (c kk))))
  (hown : OwnO w6 (gx + 1) 41 2 (.slice A2 (n kk + 1) c2) (n kk + 1) (Cs encE (l.r kk) ++ encE x))
  (hv : Value.ownBlock (.slice A2 (n kk + 1) c2) = Value.ownBlock (.slice (A kk) (n kk) (c kk)) ∨ Value.ownBlock (.slice A2 (n kk + 1) c2) = some (w5.drew.alloc o).heap.size) :
  OpRes gx A ⟨l.E, upd l.r kk (l.r kk ++ [x])⟩ w (w6.setCell ⟨gx, 1 + kk, none⟩ (.slice A2 (n kk + 1) c2)) := by
 have H5 := H.below HB
 have hs6 := hg.size
 rw [World.size_alloc] at hs6
 have hs6 : w5.heap.size + 1 ≤ w6.heap.size := hs6
 have hgx := H.row.lt
 have hs5 := HB.size
 have hblk : ∀ j, j < w5.heap.size → (∀ p, A kk = some p → p.block ≠ j) → w6.heap[j]? = w5.heap[j]? := fun j hj hn => by
  rw [hg.block j (by rw [World.size_alloc]; exact Nat.lt_succ_of_lt hj) (fun e => by obtain ⟨p, hp, hpj⟩ := own_block.1 e; exact hn p hp hpj), Below.heap_alloc w5.drew _ _ hj]
  rfl
 have hblk2 : ∀ j, j < w5.heap.size → j ≠ gx → (∀ p, A kk = some p → p.block ≠ j) → (w6.setCell ⟨gx, 1 + kk, none⟩ (.slice A2 (n kk + 1) c2)).heap[j]? = w5.heap[j]? := fun j hj hne hn => (heap_setCell_ne _ _ _ _ hne).trans (hblk j hj hn)
 have hA2 : ∀ p, A2 = some p → (∃ q, A kk = some q ∧ q.block = p.block) ∨ p.block = w5.heap.size + 1 := fun p hp => by
  rcases hv with hv | hv
  ·
   obtain ⟨q, hq, he⟩ := own_block.1 ((own_block.2 ⟨p, hp, rfl⟩).trans hv)
   exact .inl ⟨q, hq, he⟩
  ·
   have := (own_block.2 ⟨p, hp, rfl⟩).trans hv
   injection this with this
   exact .inr (by rw [World.size_alloc] at this; exact this)
 have hrow6 : RowAt w6 gx 160 (limC l.E A n c) := (hblk gx (by omega) (fun p hp => by have := ((H.own.own kk hk).fresh hp).1; omega)).trans H5.row
 refine ⟨_, _, _, H5.put hk A2 (n kk + 1) c2 (l.r kk ++ [x]) (hrow6.set _ _) ?_ (by rw [List.length_append, H.own.len kk hk]; rfl) (fun j hj hjk => ?_) (fun j hj hjk p q hp hq => ?_), ⟨?_, ?_, ?_, ?_, fun j hj hne hno => ?_, fun k p hk9 hp => ?_⟩⟩
 ·
  rw [Cs_append, Cs_one]
  exact hown.other fun g h1 _ _ => heap_setCell_ne _ _ _ _ (by show g ≠ gx; omega)
 ·
  refine (H5.own.own j hj).other fun g h1 h2 h3 => hblk2 g h2 (by omega) (fun p hp => ?_)
  obtain ⟨q, hq, hqg⟩ := own_block.1 h3
  rw [← hqg]
  exact H.own.apart kk j hk hj (Ne.symm hjk) p q hp hq
 ·
  rcases hA2 q hq with ⟨q', hq', he⟩ | he
  · rw [← he]; exact H.own.apart j kk hj hk hjk p q' hp hq'
  ·
   have := ((H5.own.own j hj).fresh hp).2
   omega
 · exact hg.os.trans HB.os
 · exact hg.tape.trans HB.tape
 · exact hg.output.trans HB.output
 · simp; omega
 · exact (hblk2 j (by omega) hne (fun p hp => hno kk p hk hp)).trans (HB.block j hj)
 ·
  by_cases hkk : k = kk
  ·
   subst hkk
   simp only [if_pos rfl] at hp
   rcases hA2 p hp with h | h
   · exact .inl h
   · exact .inr (by omega)
  ·
   simp only [if_neg hkk] at hp
   exact .inl ⟨p, hp, rfl⟩
theorem retire_any (gx : Nat) (l : Lim) (A : Nat → Option Addr) (n c : Nat → Nat) (s g : Int) (hg : 0 ≤ g ∧ g < 18446744073709551616) (w : World) (h : ChAt w gx (gx + 1) l A n c) (ho : l.ok = true) :
  Calls Tryz.prog 137 #[.pointer (some ⟨gx, 0, none⟩), .agg #[.int .i64 s, .int .u64 g]] w fun e w' =>
   (e = .returned (.tuple #[]) ∧ ∃ l', doRet l (s, g) = .ok l' ∧ OpRes gx A l' w w') ∨ (∃ k, e = .panicked (errX k) ∧ doRet l (s, g) = .error k ∧ PastK gx gx w w') := by
 have hE := (ok_out ho).1
 have HBN := Hi (show Below w.heap.size w (w.alloc (.cells #[.int .i64 s, .int .u64 g] 41)) from (Below.refl _ _).alloc (Nat.le_refl _) _)
 have HRN := Hi (RowAt.new w 41 #[.int .i64 s, .int .u64 g])
 have HN := Hi (lens_ok ho h.own.len)
 have hgw := h.row.lt
 have H := Hi h
 have HE := Hi hE
 obtain ⟨q, hq⟩ : ∃ q, entB (s, g) = q := ⟨_, rfl⟩
 have HQ := Hi hq
 have HEC := Hi (entry_any s g hg (w.alloc (.cells #[.int .i64 s, .int .u64 g] 41)) q hq)
 clear h hE hq hg ho
 go_enter Tryz.func137, Tryz.ntmps137
 go_wp2_with fail
 generalize w.alloc _ = w0 at *
 with_reducible refine HEC.out.mono ?_
 rintro e w1 ⟨rfl, hb1⟩
 have HB1 := bt HBN hb1
 have HR1 := Hi (HRN.out.below hb1)
 have H1 := Hi (H.out.below HB1.out)
 clear hb1 HEC
 cases q with
 | false =>
  have HF := Hi (doRet_err2 (l := l) HQ.out)
  go_wp2_with fail
  refine (need_no 2 _).mono ?_
  rintro e w2 ⟨rfl, rfl⟩
  exact ⟨rfl, .inr ⟨2, rfl, HF.out, PastK.of_below HB1.out (by omega)⟩⟩
 | true =>
  have x1 := cl H1.out.row 1
  have x2 := cl H1.out.row 2
  have x3 := cl H1.out.row 3
  have xl := H1.out.row.lt
  go_wp2_with fail
  refine (need_ok 2 _).mono ?_
  rintro e w2 ⟨rfl, rfl⟩
  dsimp only
  go_wp2_with fail
  go_loopw [15] (fun i wr => ∃ (k : Nat), k ≤ 3 ∧ i = .int .i64 (k : Int) ∧ (∀ j, j < k → hasB (l.r j) s = false) ∧ Below w1.heap.size w1 wr) (fun i _ => 3 - (intOf i).toNat)
  case atStart => exact ⟨0, by omega, rfl, fun j hj => absurd hj (Nat.not_lt_zero _), Below.refl _ _⟩
  case round =>
   obtain ⟨k, hk, rfl, hno, hbw⟩ := hrel
   have HNO := Hi hno
   have HBW := Hi hbw
   have H2 := Hi (H1.out.below HBW.out)
   have HR2 := Hi (HR1.out.below HBW.out)
   clear hno hbw
   by_cases hlt : k < 3
   ·
    have hki : (k : Int) < 3 := by omega
    have hix := index_rows A n c k hlt
    have HHC := Hi (hasF_any wr.heap.size (A k) (c k) (n k) 156 #[.pointer (some ⟨w.heap.size, 0, none⟩)] (enters_of Tryz.func156 (by kernel_rfl) rfl) (fun x => x.1 == s) (l.r k) wr (H2.out.own.rd.rd k hlt) (H2.out.own.len k hlt) (by have := HN.out k hlt; omega) (Nat.le_refl _)
     (fun x _ w' hb => retcl_any w.heap.size s g x w' (HR2.out.below hb)))
    obtain ⟨q3, hq3⟩ : ∃ q3, (l.r k).any (fun x => x.1 == s) = q3 := ⟨_, rfl⟩
    rw [hq3] at HHC
    have HQ3 := Hi (show hasB (l.r k) s = q3 from hq3)
    clear hq3
    go_wp2_with fail
    with_reducible refine HHC.out.mono ?_
    rintro e w3 ⟨rfl, hb3⟩
    have HB3 := bt HBW hb3
    clear hb3
    cases q3 with
    | true =>
     have HF := Hi (doRet_err5 (l := l) HQ.out hlt HQ3.out)
     go_wp2_with fail
     refine (need_no 5 _).mono ?_
     rintro e w4 ⟨rfl, rfl⟩
     exact ⟨rfl, .inr ⟨5, rfl, HF.out, PastK.of_below (HB1.out.trans (HB3.out.mono HB1.out.size)) (by omega)⟩⟩
    | false =>
     have HNO2 := Hi (show ∀ j, j < k + 1 → hasB (l.r j) s = false from fun j hj => by
      by_cases hjk : j = k
      · subst hjk; exact HQ3.out
      · exact HNO.out j (by omega))
     go_wp2_with fail
     refine (need_ok 5 _).mono ?_
     rintro e w4 ⟨rfl, rfl⟩
     dsimp only
     go_wp2_with fail
     go_roundw
     case rel => exact ⟨k + 1, by omega, by go_num, HNO2.out, HB3.out⟩
     case measure => simp [intOf]; omega
   ·
    obtain rfl : k = 3 := by omega
    have HF := Hi (doRet_ok (l := l) HQ.out HNO.out)
    have HRC := Hi (row0_any gx l.E (.slice (A 0) (n 0) (c 0)) (.slice (A 1) (n 1) (c 1)) (.slice (A 2) (n 2) (c 2)) HE.out wr H2.out.row)
    go_wp2_with fail
    with_reducible refine HRC.out.mono ?_
    rintro e w5 ⟨rfl, hb5⟩
    have H5 := Hi (H2.out.below hb5)
    have HR5 := Hi (HR2.out.below hb5)
    have HB5 := Hi ((HB1.out.trans (HBW.out.mono HB1.out.size)).trans (hb5.mono (by have := HB1.out.size; have := HBW.out.size; omega)))
    have hk3 := rowN_lt l.E 0
    obtain ⟨kk, hkk⟩ : ∃ kk, rowN l.E 0 = kk := ⟨_, rfl⟩
    rw [hkk] at hk3 HF ⊢
    have hc5 := limC_cell H5.out.row hk3
    have hl5 := H5.out.row.lt
    have hf5 := H5.out.row.frozen (1 + kk)
    have HO := Hi (H5.out.own.own kk hk3)
    have HLN := Hi (H5.out.own.len kk hk3)
    have hmk := HN.out kk hk3
    have t0 := row20 HR5.out
    have t1 := row21 HR5.out
    have tl := HR5.out.lt
    clear hb5 HRC hkk
    clear x1 x2 x3
    have HFAR := Hi (fun g (hg : some g = Value.ownBlock (.slice (A kk) (n kk) (c kk))) => HO.out.lt hg)
    have HRD := Hi (fun w => Rd.new w #[.int .i64 s, .int .u64 g] 41 2 1 rfl)
    go_wp2_with fail
    go_region_law (refine step_appO elE rfl _ _ rfl rfl (OwnO.keepB HO.out ((Below.refl _ _).drew.alloc (Nat.le_refl _) _)) rfl (HRD.out _) (by simp [Value.oneCell']) (by omega) (by simp; omega) ?_; intro v2 w6 hown6 hb6 hg6 hv6; obtain ⟨A2, c2, rfl, hmc2, hc2m⟩ := hown6.form; have HO6 := Hi hown6; have HB6 := Hi hb6; have HG6 := Hi hg6; have HV6 := Hi hv6; have HR6 := Hi (row_grown ((H5.out.row.drew).below ((Below.refl _ _).alloc (Nat.le_refl _) _)) hg6 (fun h => by have := HFAR.out _ h; omega)); have q6 := limC_cell HR6.out hk3; have l6 := HR6.out.lt; have f6 := HR6.out.frozen (1 + kk); clear hown6 hb6 hg6 hv6)
    all_goals
     have hop := OpRes.append (x := (s, g)) H.out HB5.out hk3 HG6.out HO6.out HV6.out
     go_end0
     exact .inl ⟨rfl, _, HF.out, hop⟩
end Go.Proofs.YtkicidopjihjmaaGreat.Li
set_option maxRecDepth 20000
namespace Go.Proofs.YtkicidopjihjmaaGreat.Li
open Go Go.RowKit
attribute [local go_sem] via_cell via_frozen
attribute [local go_sem] wpmf
theorem ret1_any (kl gx gb : Nat) (l : Lim) (A : Nat → Option Addr) (n c : Nat → Nat) (s g : Int) (hg : 0 ≤ g ∧ g < 18446744073709551616) (w : World) (h : ChAt w gx (gx + 1) l A n c) (hb : RowAt w gb 41 #[.int .i64 s, .int .u64 g]) (ho : l.ok = true) :
  Calls Tryz.prog 136 #[.pointer (some ⟨gx, 0, none⟩), .pointer (some ⟨gb, 0, none⟩)] w (DoesRes kl gx (gx + 1) (fun l' => doRet l (s, g) = .ok l') (fun k _ => doRet l (s, g) = .error k) (fun _ _ => True) w) := by
 have HC := Hi (retire_any gx l A n c s g hg w h ho)
 have q0 := row20 hb
 have q1 := row21 hb
 have ql := hb.lt
 have H := Hi h
 clear h hb
 go_enter Tryz.func136, Tryz.ntmps136
 go_wp2_with fail
 with_reducible refine HC.out.mono ?_
 rintro e w1 (⟨rfl, l', hl', A', n', c', hch, hfr⟩ | ⟨k, rfl, hk, hp⟩)
 ·
  have HCH := Hi hch
  have HP := Hi (hfr.past kl H.out)
  have HL := Hi hl'
  clear hch hfr hl'
  go_wp2_with fail
  go_end0
  exact ⟨HP.out, .inl ⟨rfl, l', A', n', c', HCH.out, HL.out, trivial⟩⟩
 · exact ⟨rfl, ⟨hp.os, hp.tape, hp.output, hp.size, fun j h1 h2 h3 => hp.block j h1 (by omega) h3⟩, .inr ⟨k, rfl, hk⟩⟩
theorem adv1_any (kl gx : Nat) (l : Lim) (A : Nat → Option Addr) (n c : Nat → Nat) (w : World) (h : ChAt w gx (gx + 1) l A n c) (ho : l.ok = true) :
  Calls Tryz.prog 140 #[.pointer (some ⟨gx, 0, none⟩)] w (DoesRes kl gx (gx + 1) (fun l' => doAdv l = .ok l') (fun k _ => doAdv l = .error k) (fun _ _ => True) w) := by
 have HC := Hi (advance_any gx l A n c w h ho)
 have H := Hi h
 clear h
 go_enter Tryz.func140, Tryz.ntmps140
 go_wp2_with fail
 with_reducible refine HC.out.mono ?_
 rintro e w1 (⟨rfl, l', hl', A', n', c', hch, hfr⟩ | ⟨k, rfl, hk, hp⟩)
 ·
  have HCH := Hi hch
  have HP := Hi (hfr.past kl H.out)
  have HL := Hi hl'
  clear hch hfr hl'
  go_wp2_with fail
  go_end0
  exact ⟨HP.out, .inl ⟨rfl, l', A', n', c', HCH.out, HL.out, trivial⟩⟩
 · exact ⟨rfl, ⟨hp.os, hp.tape, hp.output, hp.size, fun j h1 h2 h3 => hp.block j h1 (by omega) h3⟩, .inr ⟨k, rfl, hk⟩⟩
theorem app1 (a b : Value) : (#[a] ++ #[b] : Array Value) = #[a, b] := rfl
theorem app0 (a : Value) : (#[a] ++ #[] : Array Value) = #[a] := rfl
theorem PastK.to_below {w w' : World} (h : PastK w.heap.size w.heap.size w w') : Below w.heap.size w w' := ⟨h.os, h.tape, h.output, h.size, fun j hj => h.block j hj (by omega) hj⟩
def OutRes (W : World) (r : Except Int Lim) (e : Ending) (W' : World) : Prop :=
 Below W.heap.size W W' ∧ ((∃ l' A' n' c', r = .ok l' ∧ e = .returned (.tuple #[.agg (limC l'.E A' n' c'), .int .i64 0]) ∧ LimOwn W' W.heap.size A' n' c' l'.r) ∨
  (∃ k, r = .error k ∧ e = .returned (.tuple #[.agg zeroC, .int .i64 k])))
def retR (l : Lim) (e : Ent) : Except Int Lim := if l.ok then doRet l e else .error 240
def advR (l : Lim) : Except Int Lim := if l.ok then doAdv l else .error 240
structure LaidL (g : Nat) (w : World) (C : Array Value) (w' : World) : Prop where
 row : RowAt w' g 32 C
 block : ∀ j, j ≠ g → w'.heap[j]? = w.heap[j]?
 below : Below g w w'
theorem laidL_of {g : Nat} {w : World} {C : Array Value} {v0 v1 v2 v3 : Value} (h : RowAt w g 32 C) (hC : C.size = 4) :
  LaidL g w #[v0, v1, v2, v3] ((((w.setCell ⟨g, 0, none⟩ v0).setCell ⟨g, 1, none⟩ v1).setCell ⟨g, 2, none⟩ v2).setCell ⟨g, 3, none⟩ v3) := by
 refine ⟨?_, fun j hj => ?_, ?_⟩
 ·
  have h1 := (((h.set 0 v0).set 1 v1).set 2 v2).set 3 v3
  obtain ⟨L⟩ := C
  match L, hC with
  | [a, b, c, d], _ => simpa using h1
 · rw [heap_setCell_ne _ _ _ _ hj, heap_setCell_ne _ _ _ _ hj, heap_setCell_ne _ _ _ _ hj, heap_setCell_ne _ _ _ _ hj]
 · exact ((((Below.refl _ _).setCell (p := ⟨g, 0, none⟩) (Nat.le_refl _) _).setCell (p := ⟨g, 1, none⟩) (Nat.le_refl _) _).setCell (p := ⟨g, 2, none⟩) (Nat.le_refl _) _).setCell (p := ⟨g, 3, none⟩) (Nat.le_refl _) _
theorem Retire_any (B : Nat) (A : Nat → Option Addr) (n c : Nat → Nat) (l : Lim) (s g : Int) (W : World) (h : LimRd W B A n l.r) (hE : l.E < 18446744073709551616) (hB : B ≤ W.heap.size) (hm : ∀ k, k < 3 → n k ≤ 4096)
  (hg : ∀ k, k < 3 → ∀ e ∈ l.r k, 0 ≤ e.2 ∧ e.2 < 18446744073709551616) (hge : 0 ≤ g ∧ g < 18446744073709551616) :
  Calls Tryz.prog 108 #[.agg (limC l.E A n c), .agg #[.int .i64 s, .int .u64 g]] W (OutRes W (retR l (s, g))) := by
 obtain ⟨w1, hw1⟩ : ∃ w1, W.alloc (.cells (limC l.E A n c) 32) = w1 := ⟨_, rfl⟩
 obtain ⟨w2, hw2⟩ : ∃ w2, w1.alloc (.cells #[.int .i64 s, .int .u64 g] 41) = w2 := ⟨_, rfl⟩
 obtain ⟨w3, hw3⟩ : ∃ w3, w2.alloc (.cells zeroC 32) = w3 := ⟨_, rfl⟩
 have s1 : w1.heap.size = W.heap.size + 1 := by rw [← hw1]; simp
 have s2 : w2.heap.size = W.heap.size + 1 + 1 := by rw [← hw2]; simp [s1]
 have s3 : w3.heap.size = W.heap.size + 1 + 1 + 1 := by rw [← hw3]; simp [s2]
 have b1 := baw hw1
 have b2 := baw hw2
 have b3 := baw hw3
 have r2 : RowAt w3 (W.heap.size + 1) 41 #[.int .i64 s, .int .u64 g] := by have h := RowAt.new w1 41 #[.int .i64 s, .int .u64 g]; rw [hw2, s1] at h; exact h.below b3
 have r3 : RowAt w3 (W.heap.size + 1 + 1) 32 zeroC := by have h := RowAt.new w2 32 zeroC; rw [hw3, s2] at h; exact h
 have hb0 : Below W.heap.size W w3 := (b1.trans (b2.mono b1.size)).trans (b3.mono (by omega))
 have HTR : Hid (Calls Tryz.prog 135 #[.agg (limC l.E A n c), .func (.func 136) #[] #[.pointer (some ⟨W.heap.size + 1, 0, none⟩)]] w3 (OutRes w3 (retR l (s, g)))) := Hi (by
  have hH := h.below (hb0.mono hB)
  have hBs := Nat.le_trans hB hb0.size
  rcases Bool.eq_false_or_eq_true l.ok with hok | hok
  ·
   have hR : retR l (s, g) = doRet l (s, g) := by unfold retR; rw [hok, if_pos rfl]
   rw [hR]
   refine (tries_yes w3.heap.size B A n c l 136 _ w3 (enters_of Tryz.func136 (by kernel_rfl) rfl) hH hBs hm hg hok (fun l' => doRet l (s, g) = .ok l') (fun k _ => doRet l (s, g) = .error k) (fun _ _ => True) (fun _ _ _ _ _ => trivial) (fun _ _ _ h _ => h) (Nat.le_refl _)
    (fun w gx A' c' hch hb hgx => by rw [app1]; exact ret1_any w3.heap.size gx (W.heap.size + 1) l A' n c' s g hge w hch (r2.below hb) hok)).mono ?_
   rintro e w' ⟨hp, (⟨l', A', n', c', rfl, hown, hG, _⟩ | ⟨k, rfl, hF⟩)⟩
   · exact ⟨hp.to_below, .inl ⟨l', A', n', c', hG, rfl, hown⟩⟩
   · exact ⟨hp.to_below, .inr ⟨k, hF, rfl⟩⟩
  ·
   refine (tries_no B A n c l 136 _ w3 hH hE hBs hm hg hok).mono ?_
   rintro e w' ⟨rfl, hb⟩
   exact ⟨hb, .inr ⟨240, by unfold retR; rw [hok]; rfl, rfl⟩⟩)
 have HB := Hi hb0
 have R3 := Hi r3
 have S3 := Hi s3
 clear b1 b2 b3 r2 r3 hb0 s1 s2 s3 h hm hg hE
 subst hw3
 subst hw2
 subst hw1
 go_enter Tryz.func108, Tryz.ntmps108
 go_wp2_with fail
 generalize ((W.alloc _).alloc _).alloc _ = w3 at *
 with_reducible refine HTR.out.mono ?_
 rintro e w4 ⟨hb4, hres⟩
 have R4 := Hi (R3.out.below hb4)
 have HB4 := bt HB hb4
 have z0 := cl R4.out 0
 have z1 := cl R4.out 1
 have z2 := cl R4.out 2
 have z3 := cl R4.out 3
 have zl := R4.out.lt
 have f0 := R4.out.frozen 0
 have f1 := R4.out.frozen 1
 have f2 := R4.out.frozen 2
 have f3 := R4.out.frozen 3
 have hs4 := HB4.out.size
 have hs3 := S3.out
 clear hb4
 rcases hres with ⟨l', A', n', c', hr, rfl, hown⟩ | ⟨k, hr, rfl⟩
 ·
  have HO := Hi hown
  have HRR := Hi hr
  clear hown hr
  have HLD : Hid (LaidL (W.heap.size + 1 + 1) w4 (limC l'.E A' n' c') ((((w4.setCell ⟨W.heap.size + 1 + 1, 0, none⟩ (.int .u64 (l'.E : Int))).setCell ⟨W.heap.size + 1 + 1, 1, none⟩ (.slice (A' 0) (n' 0) (c' 0))).setCell ⟨W.heap.size + 1 + 1, 2, none⟩ (.slice (A' 1) (n' 1) (c' 1))).setCell ⟨W.heap.size + 1 + 1, 3, none⟩ (.slice (A' 2) (n' 2) (c' 2)))) := Hi (laidL_of R4.out rfl)
  go_wp2_with fail
  generalize (((w4.setCell _ _).setCell _ _).setCell _ _).setCell _ _ = w9 at *
  have c0 := cl HLD.out.row 0
  have c1 := cl HLD.out.row 1
  have c2 := cl HLD.out.row 2
  have c3 := cl HLD.out.row 3
  have cl := HLD.out.row.lt
  refine bodyPost_ret (v := .tuple #[.agg (limC l'.E A' n' c'), .int .i64 0]) (by simp [results, Tryz.results108, go_sem, c0, c1, c2, c3, cl]) rfl ?_
  exact ⟨HB4.out.trans (HLD.out.below.mono (by omega)), .inl ⟨l', A', n', c', HRR.out, rfl, (HO.out.other (fun g h1 h2 => HLD.out.block g (by omega))).lower (by omega)⟩⟩
 ·
  have HRR := Hi hr
  have HLD : Hid (LaidL (W.heap.size + 1 + 1) w4 zeroC ((((w4.setCell ⟨W.heap.size + 1 + 1, 0, none⟩ (.int .u64 0)).setCell ⟨W.heap.size + 1 + 1, 1, none⟩ (.slice none 0 0)).setCell ⟨W.heap.size + 1 + 1, 2, none⟩ (.slice none 0 0)).setCell ⟨W.heap.size + 1 + 1, 3, none⟩ (.slice none 0 0))) := Hi (laidL_of R4.out rfl)
  clear hr
  go_wp2_with fail
  generalize (((w4.setCell _ _).setCell _ _).setCell _ _).setCell _ _ = w9 at *
  have c0 := cl HLD.out.row 0
  have c1 := cl HLD.out.row 1
  have c2 := cl HLD.out.row 2
  have c3 := cl HLD.out.row 3
  have cl := HLD.out.row.lt
  refine bodyPost_ret (v := .tuple #[.agg zeroC, .int .i64 k]) (by simp [results, Tryz.results108, go_sem, c0, c1, c2, c3, cl]) rfl ?_
  exact ⟨HB4.out.trans (HLD.out.below.mono (by omega)), .inr ⟨k, HRR.out, rfl⟩⟩
theorem Advance_any (B : Nat) (A : Nat → Option Addr) (n c : Nat → Nat) (l : Lim) (W : World) (h : LimRd W B A n l.r) (hE : l.E < 18446744073709551616) (hB : B ≤ W.heap.size) (hm : ∀ k, k < 3 → n k ≤ 4096)
  (hg : ∀ k, k < 3 → ∀ e ∈ l.r k, 0 ≤ e.2 ∧ e.2 < 18446744073709551616) :
  Calls Tryz.prog 111 #[.agg (limC l.E A n c)] W (OutRes W (advR l)) := by
 obtain ⟨w1, hw1⟩ : ∃ w1, W.alloc (.cells (limC l.E A n c) 32) = w1 := ⟨_, rfl⟩
 obtain ⟨w3, hw3⟩ : ∃ w3, w1.alloc (.cells zeroC 32) = w3 := ⟨_, rfl⟩
 have s1 : w1.heap.size = W.heap.size + 1 := by rw [← hw1]; simp
 have s3 : w3.heap.size = W.heap.size + 1 + 1 := by rw [← hw3]; simp [s1]
 have b1 := baw hw1
 have b3 := baw hw3
 have r3 : RowAt w3 (W.heap.size + 1) 32 zeroC := by have h := RowAt.new w1 32 zeroC; rw [hw3, s1] at h; exact h
 have hb0 : Below W.heap.size W w3 := b1.trans (b3.mono b1.size)
 have HTR : Hid (Calls Tryz.prog 135 #[.agg (limC l.E A n c), .func (.func 140) #[] #[]] w3 (OutRes w3 (advR l))) := Hi (by
  have hH := h.below (hb0.mono hB)
  have hBs := Nat.le_trans hB hb0.size
  rcases Bool.eq_false_or_eq_true l.ok with hok | hok
  ·
   have hR : advR l = doAdv l := by unfold advR; rw [hok, if_pos rfl]
   rw [hR]
   refine (tries_yes w3.heap.size B A n c l 140 _ w3 (enters_of Tryz.func140 (by kernel_rfl) rfl) hH hBs hm hg hok (fun l' => doAdv l = .ok l') (fun k _ => doAdv l = .error k) (fun _ _ => True) (fun _ _ _ _ _ => trivial) (fun _ _ _ h _ => h) (Nat.le_refl _)
    (fun w gx A' c' hch hb hgx => by rw [app0]; exact adv1_any w3.heap.size gx l A' n c' w hch hok)).mono ?_
   rintro e w' ⟨hp, (⟨l', A', n', c', rfl, hown, hG, _⟩ | ⟨k, rfl, hF⟩)⟩
   · exact ⟨hp.to_below, .inl ⟨l', A', n', c', hG, rfl, hown⟩⟩
   · exact ⟨hp.to_below, .inr ⟨k, hF, rfl⟩⟩
  ·
   refine (tries_no B A n c l 140 _ w3 hH hE hBs hm hg hok).mono ?_
   rintro e w' ⟨rfl, hb⟩
   exact ⟨hb, .inr ⟨240, by unfold advR; rw [hok]; rfl, rfl⟩⟩)
 have HB := Hi hb0
 have R3 := Hi r3
 have S3 := Hi s3
 clear b1 b3 r3 hb0 s1 s3 h hm hg hE
 subst hw3
 subst hw1
 go_enter Tryz.func111, Tryz.ntmps111
 go_wp2_with fail
 generalize (W.alloc _).alloc _ = w3 at *
 with_reducible refine HTR.out.mono ?_
 rintro e w4 ⟨hb4, hres⟩
 have R4 := Hi (R3.out.below hb4)
 have HB4 := bt HB hb4
 have z0 := cl R4.out 0
 have z1 := cl R4.out 1
 have z2 := cl R4.out 2
 have z3 := cl R4.out 3
 have zl := R4.out.lt
 have f0 := R4.out.frozen 0
 have f1 := R4.out.frozen 1
 have f2 := R4.out.frozen 2
 have f3 := R4.out.frozen 3
 have hs4 := HB4.out.size
 have hs3 := S3.out
 clear hb4
 rcases hres with ⟨l', A', n', c', hr, rfl, hown⟩ | ⟨k, hr, rfl⟩
 ·
  have HO := Hi hown
  have HRR := Hi hr
  clear hown hr
  have HLD : Hid (LaidL (W.heap.size + 1) w4 (limC l'.E A' n' c') ((((w4.setCell ⟨W.heap.size + 1, 0, none⟩ (.int .u64 (l'.E : Int))).setCell ⟨W.heap.size + 1, 1, none⟩ (.slice (A' 0) (n' 0) (c' 0))).setCell ⟨W.heap.size + 1, 2, none⟩ (.slice (A' 1) (n' 1) (c' 1))).setCell ⟨W.heap.size + 1, 3, none⟩ (.slice (A' 2) (n' 2) (c' 2)))) := Hi (laidL_of R4.out rfl)
  go_wp2_with fail
  generalize (((w4.setCell _ _).setCell _ _).setCell _ _).setCell _ _ = w9 at *
  have c0 := cl HLD.out.row 0
  have c1 := cl HLD.out.row 1
  have c2 := cl HLD.out.row 2
  have c3 := cl HLD.out.row 3
  have cl := HLD.out.row.lt
  refine bodyPost_ret (v := .tuple #[.agg (limC l'.E A' n' c'), .int .i64 0]) (by simp [results, Tryz.results111, go_sem, c0, c1, c2, c3, cl]) rfl ?_
  exact ⟨HB4.out.trans (HLD.out.below.mono (by omega)), .inl ⟨l', A', n', c', HRR.out, rfl, (HO.out.other (fun g h1 h2 => HLD.out.block g (by omega))).lower (by omega)⟩⟩
 ·
  have HRR := Hi hr
  have HLD : Hid (LaidL (W.heap.size + 1) w4 zeroC ((((w4.setCell ⟨W.heap.size + 1, 0, none⟩ (.int .u64 0)).setCell ⟨W.heap.size + 1, 1, none⟩ (.slice none 0 0)).setCell ⟨W.heap.size + 1, 2, none⟩ (.slice none 0 0)).setCell ⟨W.heap.size + 1, 3, none⟩ (.slice none 0 0))) := Hi (laidL_of R4.out rfl)
  clear hr
  go_wp2_with fail
  generalize (((w4.setCell _ _).setCell _ _).setCell _ _).setCell _ _ = w9 at *
  have c0 := cl HLD.out.row 0
  have c1 := cl HLD.out.row 1
  have c2 := cl HLD.out.row 2
  have c3 := cl HLD.out.row 3
  have cl := HLD.out.row.lt
  refine bodyPost_ret (v := .tuple #[.agg zeroC, .int .i64 k]) (by simp [results, Tryz.results111, go_sem, c0, c1, c2, c3, cl]) rfl ?_
  exact ⟨HB4.out.trans (HLD.out.below.mono (by omega)), .inr ⟨k, HRR.out, rfl⟩⟩
end Go.Proofs.YtkicidopjihjmaaGreat.Li
set_option maxRecDepth 20000
namespace Go.Proofs.YtkicidopjihjmaaGreat.Li
open Go Go.RowKit
attribute [local go_sem] via_cell via_frozen
attribute [local go_sem] wpmf
abbrev entC (x : Ent) : Array Value := #[.int .i64 x.1, .int .u64 x.2]
def TakG (l l' : Lim) : Prop := ∃ x, doTake l = .ok (l', x)
def TakX (l : Lim) (kl : Nat) (l' : Lim) (w : World) : Prop := ∃ x, doTake l = .ok (l', x) ∧ RowAt w kl 41 (entC x)
theorem tak1_any (kl gx : Nat) (l : Lim) (A : Nat → Option Addr) (n c : Nat → Nat) (w : World) (h : ChAt w gx (gx + 1) l A n c) (hb : RowAt w kl 41 (entC (0, 0))) (hkl : kl < gx) (ho : l.ok = true) :
  Calls Tryz.prog 138 #[.pointer (some ⟨gx, 0, none⟩), .pointer (some ⟨kl, 0, none⟩)] w (DoesRes kl gx (gx + 1) (TakG l) (fun k w' => doTake l = .error k ∧ RowAt w' kl 41 (entC (0, 0)))
   (TakX l kl) w) := by
 have HC := Hi (take_any gx l A n c w h ho)
 have H := Hi h
 have HR := Hi hb
 clear h hb
 go_enter Tryz.func138, Tryz.ntmps138
 go_wp2_with fail
 with_reducible refine HC.out.mono ?_
 rintro e w1 (⟨l', ⟨s, g⟩, rfl, hl', A', n', c', hch, hfr⟩ | ⟨k, rfl, hk, hp⟩)
 ·
  have HCH := Hi hch
  have HP := Hi (hfr.past kl H.out)
  have HL := Hi hl'
  have hr1 : RowAt w1 kl 41 (entC (0, 0)) := (hfr.block kl HR.out.lt (by omega) (fun k p hk hp => by have := ((H.out.own.own k hk).fresh hp).1; omega)).trans HR.out
  have HR1 := Hi hr1
  have q0 := row20 hr1
  have q1 := row21 hr1
  have ql := hr1.lt
  have f0 := hr1.frozen 0
  have f1 := hr1.frozen 1
  clear hch hfr hl' hr1
  unfold entV
  dsimp only
  go_wp2_with fail
  go_end0
  refine ⟨(HP.out.trans (PastK.setKl 0 _)).trans (PastK.setKl 1 _), .inl ⟨rfl, l', A', n', c', ⟨(HCH.out.row.setNe (by omega)).setNe (by omega), HCH.out.own.other (fun j h1 _ => by rw [heap_setCell_ne _ _ _ _ (by show j ≠ kl; omega), heap_setCell_ne _ _ _ _ (by show j ≠ kl; omega)]), by omega⟩, ⟨_, HL.out⟩, (s, g), HL.out, ?_⟩⟩
  have h := (HR1.out.set 0 (.int .i64 s)).set 1 (.int .u64 g)
  simpa using h
 · exact ⟨rfl, ⟨hp.os, hp.tape, hp.output, hp.size, fun j h1 h2 h3 => hp.block j h1 (by omega) h3⟩, .inr ⟨k, rfl, hk, (hp.block kl hkl (by omega) HR.out.lt).trans HR.out⟩⟩
def takR (l : Lim) : Except Int (Lim × Ent) := if l.ok then doTake l else .error 240
def OutResT (W : World) (r : Except Int (Lim × Ent)) (e : Ending) (W' : World) : Prop :=
 Below W.heap.size W W' ∧ ((∃ l' x A' n' c', r = .ok (l', x) ∧ e = .returned (.tuple #[.agg (limC l'.E A' n' c'), .agg (entC x), .int .i64 0]) ∧ LimOwn W' W.heap.size A' n' c' l'.r) ∨
  (∃ k, r = .error k ∧ e = .returned (.tuple #[.agg zeroC, .agg (entC (0, 0)), .int .i64 k])))
def TakTr (l : Lim) (kl : Nat) (W : World) (e : Ending) (W' : World) : Prop :=
 PastK kl W.heap.size W W' ∧ ((∃ l' x A' n' c', takR l = .ok (l', x) ∧ e = .returned (.tuple #[.agg (limC l'.E A' n' c'), .int .i64 0]) ∧ LimOwn W' W.heap.size A' n' c' l'.r ∧ RowAt W' kl 41 (entC x)) ∨
  (∃ k, takR l = .error k ∧ e = .returned (.tuple #[.agg zeroC, .int .i64 k]) ∧ RowAt W' kl 41 (entC (0, 0))))
theorem takTr_any (B : Nat) (A : Nat → Option Addr) (n c : Nat → Nat) (l : Lim) (kl : Nat) (w : World) (h : LimRd w B A n l.r) (hE : l.E < 18446744073709551616) (hB : B ≤ w.heap.size) (hm : ∀ k, k < 3 → n k ≤ 4096)
  (hg : ∀ k, k < 3 → ∀ e ∈ l.r k, 0 ≤ e.2 ∧ e.2 < 18446744073709551616) (hr : RowAt w kl 41 (entC (0, 0))) :
  Calls Tryz.prog 135 #[.agg (limC l.E A n c), .func (.func 138) #[] #[.pointer (some ⟨kl, 0, none⟩)]] w (TakTr l kl w) := by
 have hkl := hr.lt
 rcases Bool.eq_false_or_eq_true l.ok with hok | hok
 ·
  have hR : takR l = doTake l := by unfold takR; rw [hok, if_pos rfl]
  unfold TakTr
  rw [hR]
  refine (tries_yes kl B A n c l 138 _ w (enters_of Tryz.func138 (by kernel_rfl) rfl) h hB hm hg hok (TakG l) (fun k w' => doTake l = .error k ∧ RowAt w' kl 41 (entC (0, 0)))
   (TakX l kl) (fun l' w1 w2 hx hk => by obtain ⟨x, h1, h2⟩ := hx; exact ⟨x, h1, (hk kl (by omega) (by omega) h2.lt).trans h2⟩) (fun k w1 w2 hx hk => ⟨hx.1, (hk kl (by omega) (by omega) hx.2.lt).trans hx.2⟩) (by omega)
   (fun w' gx A' c' hch hb hgx => by rw [app1]; exact tak1_any kl gx l A' n c' w' hch (hr.below hb) (by omega) hok)).mono ?_
  rintro e w' ⟨hp, (⟨l', A', n', c', rfl, hown, hG, x, hx, hrow⟩ | ⟨k, rfl, hF⟩)⟩
  · exact ⟨hp, .inl ⟨l', x, A', n', c', hx, rfl, hown, hrow⟩⟩
  · exact ⟨hp, .inr ⟨k, hF.1, rfl, hF.2⟩⟩
 ·
  refine (tries_no B A n c l 138 _ w h hE hB hm hg hok).mono ?_
  rintro e w' ⟨rfl, hb⟩
  exact ⟨PastK.of_below hb (Nat.le_refl _), .inr ⟨240, by unfold takR; rw [hok]; rfl, rfl, hr.below hb⟩⟩
def LaidT (W w : World) (C D : Array Value) (w' : World) : Prop :=
 (RowAt w' (W.heap.size + 1) 32 C ∧ RowAt w' (W.heap.size + 1 + 1) 41 D) ∧ (∀ j, j ≠ W.heap.size + 1 → j ≠ W.heap.size + 1 + 1 → w'.heap[j]? = w.heap[j]?) ∧ Below (W.heap.size + 1) w w'
theorem laidT_of {W w : World} {C : Array Value} {v0 v1 v2 v3 : Value} {e0 e1 : Value} (h : RowAt w (W.heap.size + 1) 32 C) (hC : C.size = 4) (h2 : RowAt w (W.heap.size + 1 + 1) 41 (entC (0, 0))) :
  LaidT W w #[v0, v1, v2, v3] #[e0, e1] ((((((w.setCell ⟨W.heap.size + 1, 0, none⟩ v0).setCell ⟨W.heap.size + 1, 1, none⟩ v1).setCell ⟨W.heap.size + 1, 2, none⟩ v2).setCell ⟨W.heap.size + 1, 3, none⟩ v3).setCell ⟨W.heap.size + 1 + 1, 0, none⟩ e0).setCell ⟨W.heap.size + 1 + 1, 1, none⟩ e1) := by
 have hL := laidL_of (v0 := v0) (v1 := v1) (v2 := v2) (v3 := v3) h hC
 generalize (((w.setCell _ _).setCell _ _).setCell _ _).setCell _ _ = w7 at *
 have h3 : RowAt w7 (W.heap.size + 1 + 1) 41 (entC (0, 0)) := (hL.block _ (by omega)).trans h2
 refine ⟨⟨(hL.row.setNe (by omega)).setNe (by omega), ?_⟩, fun j h1 h2 => by rw [heap_setCell_ne _ _ _ _ h2, heap_setCell_ne _ _ _ _ h2]; exact hL.block j h1, (hL.below.setCell (p := ⟨W.heap.size + 1 + 1, 0, none⟩) (by simp) _).setCell (p := ⟨W.heap.size + 1 + 1, 1, none⟩) (by simp) _⟩
 have h4 := (h3.set 0 e0).set 1 e1
 simpa using h4
theorem Take_any (B : Nat) (A : Nat → Option Addr) (n c : Nat → Nat) (l : Lim) (W : World) (h : LimRd W B A n l.r) (hE : l.E < 18446744073709551616) (hB : B ≤ W.heap.size) (hm : ∀ k, k < 3 → n k ≤ 4096)
  (hg : ∀ k, k < 3 → ∀ e ∈ l.r k, 0 ≤ e.2 ∧ e.2 < 18446744073709551616) :
  Calls Tryz.prog 109 #[.agg (limC l.E A n c)] W (OutResT W (takR l)) := by
 obtain ⟨w1, hw1⟩ : ∃ w1, W.alloc (.cells (limC l.E A n c) 32) = w1 := ⟨_, rfl⟩
 obtain ⟨w2, hw2⟩ : ∃ w2, w1.alloc (.cells zeroC 32) = w2 := ⟨_, rfl⟩
 obtain ⟨w3, hw3⟩ : ∃ w3, w2.alloc (.cells #[.int .i64 0, .int .u64 0] 41) = w3 := ⟨_, rfl⟩
 obtain ⟨w4, hw4⟩ : ∃ w4, w3.alloc (.cells #[.int .i64 0, .int .u64 0] 41) = w4 := ⟨_, rfl⟩
 have s1 : w1.heap.size = W.heap.size + 1 := by rw [← hw1]; simp
 have s2 : w2.heap.size = W.heap.size + 1 + 1 := by rw [← hw2]; simp [s1]
 have s3 : w3.heap.size = W.heap.size + 1 + 1 + 1 := by rw [← hw3]; simp [s2]
 have s4 : w4.heap.size = W.heap.size + 1 + 1 + 1 + 1 := by rw [← hw4]; simp [s3]
 have b1 := baw hw1
 have b2 := baw hw2
 have b3 := baw hw3
 have b4 := baw hw4
 have r2 : RowAt w4 (W.heap.size + 1) 32 zeroC := by have h := RowAt.new w1 32 zeroC; rw [hw2, s1] at h; exact (h.below b3).below b4
 have r3 : RowAt w4 (W.heap.size + 1 + 1) 41 (entC (0, 0)) := by have h := RowAt.new w2 41 (entC (0, 0)); rw [hw3, s2] at h; exact h.below b4
 have r4 : RowAt w4 (W.heap.size + 1 + 1 + 1) 41 (entC (0, 0)) := by have h := RowAt.new w3 41 (entC (0, 0)); rw [hw4, s3] at h; exact h
 have hb0 : Below W.heap.size W w4 := ((b1.trans (b2.mono b1.size)).trans (b3.mono (by omega))).trans (b4.mono (by omega))
 have HTR := Hi (takTr_any B A n c l (W.heap.size + 1 + 1 + 1) w4 (h.below (hb0.mono hB)) hE (Nat.le_trans hB hb0.size) hm hg r4)
 have HB := Hi hb0
 have R2 := Hi r2
 have R3 := Hi r3
 have S4 := Hi s4
 clear b1 b2 b3 b4 r2 r3 r4 hb0 s1 s2 s3 s4 h hm hg hE
 subst hw4
 subst hw3
 subst hw2
 subst hw1
 go_enter Tryz.func109, Tryz.ntmps109
 go_wp2_with fail
 generalize (((W.alloc _).alloc _).alloc _).alloc _ = w4 at *
 have hs4 := S4.out
 with_reducible refine HTR.out.mono ?_
 rintro e w5 ⟨hp5, hres⟩
 have hs5 := hp5.size
 have R2 := Hi (show RowAt w5 (W.heap.size + 1) 32 zeroC from (hp5.block _ (by omega) (by omega) (by omega)).trans R2.out)
 have R3 := Hi (show RowAt w5 (W.heap.size + 1 + 1) 41 (entC (0, 0)) from (hp5.block _ (by omega) (by omega) (by omega)).trans R3.out)
 have HB5 := Hi (HB.out.trans ⟨hp5.os, hp5.tape, hp5.output, hp5.size, fun j hj => hp5.block j (by omega) (by omega) (by omega)⟩)
 clear hp5 HB HTR
 rcases hres with ⟨l', ⟨s, g⟩, A', n', c', hr, rfl, hown, hrow⟩ | ⟨k, hr, rfl, hrow⟩
 ·
  have HO := Hi hown
  have HRR := Hi hr
  have HRK := Hi hrow
  have HRN := Hi (RowAt.new w5 32 (limC l'.E A' n' c'))
  have HBN := Hi (show Below w5.heap.size w5 (w5.alloc (.cells (limC l'.E A' n' c') 32)) from (Below.refl _ _).alloc (Nat.le_refl _) _)
  clear hown hr hrow
  go_wp2_with fail
  generalize w5.alloc _ = w6 at *
  have R2 := Hi (R2.out.below HBN.out)
  have R3 := Hi (R3.out.below HBN.out)
  have HRK := Hi (HRK.out.below HBN.out)
  have HB6 := Hi (HB5.out.trans (HBN.out.mono HB5.out.size))
  have x0 := cl HRN.out 0
  have x1 := cl HRN.out 1
  have x2 := cl HRN.out 2
  have x3 := cl HRN.out 3
  have xl := HRN.out.lt
  have z0 := cl R2.out 0
  have z1 := cl R2.out 1
  have z2 := cl R2.out 2
  have z3 := cl R2.out 3
  have zl := R2.out.lt
  have f0 := R2.out.frozen 0
  have f1 := R2.out.frozen 1
  have f2 := R2.out.frozen 2
  have f3 := R2.out.frozen 3
  have y0 := row20 R3.out
  have y1 := row21 R3.out
  have yl := R3.out.lt
  have g0 := R3.out.frozen 0
  have g1 := R3.out.frozen 1
  have k0 := row20 HRK.out
  have k1 := row21 HRK.out
  have kl := HRK.out.lt
  have hne : ¬ w5.heap.size = W.heap.size + 1 := by omega
  have hne2 : ¬ w5.heap.size = W.heap.size + 1 + 1 := by omega
  dsimp only at k0 k1
  go_region
  all_goals
   have HLD : Hid (LaidT W w6 (limC l'.E A' n' c') (entC (s, g)) ((((((w6.setCell ⟨W.heap.size + 1, 0, none⟩ (.int .u64 (l'.E : Int))).setCell ⟨W.heap.size + 1, 1, none⟩ (.slice (A' 0) (n' 0) (c' 0))).setCell ⟨W.heap.size + 1, 2, none⟩ (.slice (A' 1) (n' 1) (c' 1))).setCell ⟨W.heap.size + 1, 3, none⟩ (.slice (A' 2) (n' 2) (c' 2))).setCell ⟨W.heap.size + 1 + 1, 0, none⟩ (.int .i64 s)).setCell ⟨W.heap.size + 1 + 1, 1, none⟩ (.int .u64 g))) := Hi (laidT_of R2.out rfl R3.out)
   generalize (((((w6.setCell _ _).setCell _ _).setCell _ _).setCell _ _).setCell _ _).setCell _ _ = w7 at *
   have HLD : Hid (LaidT W w6 (limC l'.E A' n' c') (entC (s, g)) w7.drew) := Hi ⟨⟨HLD.out.1.1.drew, HLD.out.1.2.drew⟩, HLD.out.2.1, HLD.out.2.2.drew⟩
   clear x0 x1 x2 x3 xl z0 z1 z2 z3 zl f0 f1 f2 f3 y0 y1 yl g0 g1 k0 k1 kl hne hne2
   generalize w7.drew = w8 at *
   go_wp2_with fail
   have c0 := cl HLD.out.1.1 0
   have c1 := cl HLD.out.1.1 1
   have c2 := cl HLD.out.1.1 2
   have c3 := cl HLD.out.1.1 3
   have d0 := row20 HLD.out.1.2
   have d1 := row21 HLD.out.1.2
   have cl := HLD.out.1.1.lt
   have dl := HLD.out.1.2.lt
   refine bodyPost_ret (v := .tuple #[.agg (limC l'.E A' n' c'), .agg (entC (s, g)), .int .i64 0]) (by simp [results, Tryz.results109, go_sem, c0, c1, c2, c3, cl, d0, d1, dl]) rfl ?_
   exact ⟨HB6.out.trans (HLD.out.2.2.mono (by omega)), .inl ⟨l', (s, g), A', n', c', HRR.out, rfl, ((HO.out.keepB HBN.out).other (fun j h1 h2 => (HLD.out.2.1 j (by omega) (by omega)))).lower (by omega)⟩⟩
 ·
  have HRR := Hi hr
  have HRK := Hi hrow
  have HRN := Hi (RowAt.new w5 32 zeroC)
  have HBN := Hi (show Below w5.heap.size w5 (w5.alloc (.cells zeroC 32)) from (Below.refl _ _).alloc (Nat.le_refl _) _)
  clear hr hrow
  go_wp2_with fail
  generalize w5.alloc _ = w6 at *
  have R2 := Hi (R2.out.below HBN.out)
  have R3 := Hi (R3.out.below HBN.out)
  have HRK := Hi (HRK.out.below HBN.out)
  have HB6 := Hi (HB5.out.trans (HBN.out.mono HB5.out.size))
  have x0 := cl HRN.out 0
  have x1 := cl HRN.out 1
  have x2 := cl HRN.out 2
  have x3 := cl HRN.out 3
  have xl := HRN.out.lt
  have z0 := cl R2.out 0
  have z1 := cl R2.out 1
  have z2 := cl R2.out 2
  have z3 := cl R2.out 3
  have zl := R2.out.lt
  have f0 := R2.out.frozen 0
  have f1 := R2.out.frozen 1
  have f2 := R2.out.frozen 2
  have f3 := R2.out.frozen 3
  have y0 := row20 R3.out
  have y1 := row21 R3.out
  have yl := R3.out.lt
  have g0 := R3.out.frozen 0
  have g1 := R3.out.frozen 1
  have k0 := row20 HRK.out
  have k1 := row21 HRK.out
  have kl := HRK.out.lt
  have hne : ¬ w5.heap.size = W.heap.size + 1 := by omega
  have hne2 : ¬ w5.heap.size = W.heap.size + 1 + 1 := by omega
  dsimp only at k0 k1
  go_region
  all_goals
   have HLD : Hid (LaidT W w6 zeroC (entC (0, 0)) ((((((w6.setCell ⟨W.heap.size + 1, 0, none⟩ (.int .u64 0)).setCell ⟨W.heap.size + 1, 1, none⟩ (.slice none 0 0)).setCell ⟨W.heap.size + 1, 2, none⟩ (.slice none 0 0)).setCell ⟨W.heap.size + 1, 3, none⟩ (.slice none 0 0)).setCell ⟨W.heap.size + 1 + 1, 0, none⟩ (.int .i64 0)).setCell ⟨W.heap.size + 1 + 1, 1, none⟩ (.int .u64 0))) := Hi (laidT_of R2.out rfl R3.out)
   generalize (((((w6.setCell _ _).setCell _ _).setCell _ _).setCell _ _).setCell _ _).setCell _ _ = w7 at *
   have HLD : Hid (LaidT W w6 zeroC (entC (0, 0)) w7.drew) := Hi ⟨⟨HLD.out.1.1.drew, HLD.out.1.2.drew⟩, HLD.out.2.1, HLD.out.2.2.drew⟩
   clear x0 x1 x2 x3 xl z0 z1 z2 z3 zl f0 f1 f2 f3 y0 y1 yl g0 g1 k0 k1 kl hne hne2
   generalize w7.drew = w8 at *
   go_wp2_with fail
   have c0 := cl HLD.out.1.1 0
   have c1 := cl HLD.out.1.1 1
   have c2 := cl HLD.out.1.1 2
   have c3 := cl HLD.out.1.1 3
   have d0 := row20 HLD.out.1.2
   have d1 := row21 HLD.out.1.2
   have cl := HLD.out.1.1.lt
   have dl := HLD.out.1.2.lt
   refine bodyPost_ret (v := .tuple #[.agg zeroC, .agg (entC (0, 0)), .int .i64 k]) (by simp [results, Tryz.results109, go_sem, c0, c1, c2, c3, cl, d0, d1, dl]) rfl ?_
   exact ⟨HB6.out.trans (HLD.out.2.2.mono (by omega)), .inr ⟨k, HRR.out, rfl⟩⟩
end Go.Proofs.YtkicidopjihjmaaGreat.Li
set_option maxRecDepth 20000
namespace Go.Proofs.YtkicidopjihjmaaGreat.Li
open Go Go.RowKit
attribute [local go_sem] via_cell via_frozen
attribute [local go_sem] wpmf
theorem getD_take (xs : List Ent) (i : Nat) (h : i < xs.length) : xs.take (i + 1) = xs.take i ++ [xs.getD i (0, 0)] := by
 rw [List.take_succ_eq_append_getElem h, List.getD_eq_getElem?_getD, List.getElem?_eq_getElem h]; rfl
structure RnAt (w : World) (gx kl : Nat) (l : Lim) (took : List Ent) (A : Nat → Option Addr) (n c : Nat → Nat) (v : Value) (wr : World) : Prop where
 ch : ChAt wr gx (gx + 1) l A n c
 ok : l.ok = true
 box : RowAt wr kl 29 #[v]
 own : OwnO wr (gx + 1) 41 2 v took.length (Cs encE took)
 apart : ∀ k p, k < 3 → A k = some p → some p.block ≠ v.ownBlock
 past : PastK kl gx w wr
 lt : kl < gx
theorem RnAt.below {w : World} {gx kl : Nat} {l : Lim} {took : List Ent} {A : Nat → Option Addr} {n c : Nat → Nat} {v : Value} {wr w2 : World} (h : RnAt w gx kl l took A n c v wr) (hb : Below wr.heap.size wr w2) : RnAt w gx kl l took A n c v w2 :=
 ⟨h.ch.below hb, h.ok, h.box.below hb, h.own.keepB hb, h.apart, h.past.trans (PastK.of_below hb (Nat.le_of_lt h.ch.row.lt)), h.lt⟩
theorem RnAt.op {w : World} {gx kl : Nat} {l l' : Lim} {took : List Ent} {A A' : Nat → Option Addr} {n c n' c' : Nat → Nat} {v : Value} {wr w2 : World} (h : RnAt w gx kl l took A n c v wr) (hc : ChAt w2 gx (gx + 1) l' A' n' c') (hf : ChFr gx A A' wr w2) (ho : l'.ok = true) : RnAt w gx kl l' took A' n' c' v w2 := by
 refine ⟨hc, ho, ?_, ?_, fun k p hk hp => ?_, h.past.trans (hf.past kl h.ch), h.lt⟩
 · exact (hf.block kl h.box.lt (by have := h.lt; omega) (fun k p hk hp => by have := ((h.ch.own.own k hk).fresh hp).1; have := h.lt; omega)).trans h.box
 ·
  refine h.own.other (fun g h1 h2 h3 => hf.block g h2 (by omega) (fun k p hk hp => ?_))
  intro e
  exact h.apart k p hk hp (by rw [e, h3])
 ·
  intro e
  rcases hf.rows k p hk hp with ⟨q, hq, he⟩ | he
  · exact h.apart k q hk hq (by rw [he, e])
  ·
   have := (h.own.lt e).2
   omega
end Go.Proofs.YtkicidopjihjmaaGreat.Li
set_option maxRecDepth 20000
namespace Go.Proofs.YtkicidopjihjmaaGreat.Li
open Go Go.RowKit
attribute [local go_sem] via_cell via_frozen
attribute [local go_sem] wpmf
theorem doRet_ne {l : Lim} {s : Ent} {k : Int} (h : doRet l s = .error k) : k ≠ 0 := by
 unfold doRet at h
 split at h
 · injection h with h; omega
 ·
  split at h
  · injection h with h; omega
  · cases h
theorem doAdv_ne {l : Lim} {k : Int} (h : doAdv l = .error k) : k ≠ 0 := by
 unfold doAdv at h
 split at h
 · injection h with h; omega
 ·
  split at h
  · cases h
  · injection h with h; omega
def runR (l : Lim) (steps : List Ent) : Except Int (Lim × List Ent) := if l.ok then doRun l steps [] else .error 240
theorem New_any (W : World) : Calls Tryz.prog 68 #[] W fun e W' => e = .returned (.agg zeroC) ∧ Below W.heap.size W W' := by
 have HB := Hi (show Below W.heap.size W (W.alloc (.cells zeroC 32)) from (Below.refl _ _).alloc (Nat.le_refl _) _)
 have HR := Hi (RowAt.new W 32 zeroC)
 go_enter Tryz.func68, Tryz.ntmps68
 go_wp2_with fail
 generalize W.alloc (.cells zeroC 32) = w8 at *
 have c0 := cl HR.out 0
 have c1 := cl HR.out 1
 have c2 := cl HR.out 2
 have c3 := cl HR.out 3
 have cl := HR.out.lt
 exact bodyPost_ret (v := .agg zeroC) (by simp [results, Tryz.results68, go_sem, c0, c1, c2, c3, cl]) rfl ⟨rfl, HB.out⟩
end Go.Proofs.YtkicidopjihjmaaGreat.Li
namespace Go.Proofs.YtkicidopjihjmaaGreat
open Go Go.RowKit
abbrev Ent := Int × Int
structure Rec where
 sl : List Ent
 e : Int
 S : List Int
 l : Li.Lim
def rec0 : Rec := ⟨[], 0, [], Li.lim0⟩
structure EOp where
 k : Int
 g : Int
 b : Int
 x : Ent
def fitB (sl : List Ent) (l : Li.Lim) : Bool := l.held.all (fun x => (ents sl 2).any (fun y => decide (y = x))) && decide (l.held.length = (ents sl 2).length)
def Rec.ok (r : Rec) : Bool := arOk r.sl && (Pn.pOk r.e r.S && (r.l.ok && (decide ((r.l.E : Int) = r.e) && fitB r.sl r.l)))
structure OkR (r : Rec) : Prop where
 ar : arOk r.sl = true
 pn : Pn.pOk r.e r.S = true
 lm : r.l.ok = true
 ep : (r.l.E : Int) = r.e
 sub : ∀ x ∈ r.l.held, x ∈ ents r.sl 2
 len : r.l.held.length = (ents r.sl 2).length
theorem ok_iff {r : Rec} : r.ok = true ↔ OkR r := by
 unfold Rec.ok fitB
 simp only [Bool.and_eq_true, decide_eq_true_eq, List.all_eq_true, List.any_eq_true]
 constructor
 ·
  rintro ⟨h1, h2, h3, h4, h5, h6⟩
  exact ⟨h1, h2, h3, h4, fun x hx => by obtain ⟨y, hy, rfl⟩ := h5 x hx; exact hy, h6⟩
 ·
  rintro ⟨h1, h2, h3, h4, h5, h6⟩
  exact ⟨h1, h2, h3, h4, fun x hx => ⟨x, h5 x hx, rfl⟩, h6⟩
def sameR (a b : Rec) : Bool := decide (a.sl = b.sl) && ((decide (a.e = b.e) && decide (a.S = b.S)) && (decide (a.l.E = b.l.E) && (decide (a.l.r 0 = b.l.r 0) && (decide (a.l.r 1 = b.l.r 1) && decide (a.l.r 2 = b.l.r 2)))))
def pinR (r : Rec) (told : List Ent) (o : EOp) (k : Int) : Except Int (Rec × List Ent) :=
 if Pn.doE r.e r.S k o.g o.b = 0 then .ok (⟨r.sl, Pn.doX r.e r.S k o.g o.b, Pn.doS r.e r.S k o.g o.b, r.l⟩, told) else .error (Pn.doE r.e r.S k o.g o.b)
def takeR (r : Rec) (told : List Ent) : Except Int (Rec × List Ent) :=
 if tkE r.sl 1 = 0 then .ok (⟨tkA r.sl 1, r.e, r.S, r.l⟩, told ++ tkL r.sl 1) else .error (tkE r.sl 1)
def metR (r : Rec) (x : Ent) : Bool := arOk r.sl && meantB r.sl x
def backR (r : Rec) (told : List Ent) (x : Ent) : Except Int (Rec × List Ent) :=
 if metR r x = true ∧ tagOf r.sl x = 1 then (if gvE r.sl [x] = 0 then .ok (⟨gvA r.sl [x], r.e, r.S, r.l⟩, told) else .error (gvE r.sl [x])) else .error 4
def retiR (r : Rec) (told : List Ent) (x : Ent) : Except Int (Rec × List Ent) :=
 if rtE r.sl [x] = 0 then
  match Li.retR r.l x with
  | .ok l => .ok (⟨rtA r.sl [x], r.e, r.S, l⟩, told)
  | .error k => .error k
 else .error (rtE r.sl [x])
def freeR (r : Rec) (told : List Ent) : Except Int (Rec × List Ent) :=
 match Li.takR r.l with
 | .ok (l, x) => if gvE r.sl [x] = 0 then .ok (⟨gvA r.sl [x], r.e, r.S, l⟩, told ++ [x]) else .error (gvE r.sl [x])
 | .error k => .error k
def goR (r : Rec) (told : List Ent) (o : EOp) : Except Int (Rec × List Ent) :=
 if (if r.l.ok then r.l.at 2 else []).length = 0 then
  match pinR r told o 3 with
  | .ok (r', t) => (match Li.advR r'.l with
   | .ok l => .ok (⟨r'.sl, r'.e, r'.S, l⟩, t)
   | .error k => .error k)
  | .error k => .error k
 else .error 241
def stepR (r : Rec) (told : List Ent) (o : EOp) : Except Int (Rec × List Ent) :=
 if o.k = 1 then pinR r told o 1
 else if o.k = 2 then pinR r told o 2
 else if o.k = 3 then takeR r told
 else if o.k = 4 then backR r told o.x
 else if o.k = 5 then retiR r told o.x
 else if o.k = 6 then freeR r told
 else if o.k = 7 then goR r told o
 else .error 251
def StayF (F : Nat → Prop) (w w' : World) : Prop := w.heap.size ≤ w'.heap.size ∧ ∀ j, F j → j < w.heap.size → w'.heap[j]? = w.heap[j]?
theorem StayF.refl (F : Nat → Prop) (w : World) : StayF F w w := ⟨Nat.le_refl _, fun _ _ _ => rfl⟩
theorem StayF.trans {F : Nat → Prop} {a b c : World} (h : StayF F a b) (g : StayF F b c) : StayF F a c := ⟨Nat.le_trans h.1 g.1, fun j hF hl => (g.2 j hF (Nat.lt_of_lt_of_le hl h.1)).trans (h.2 j hF hl)⟩
theorem StayF.of_below {F : Nat → Prop} {w w' : World} (h : Below w.heap.size w w') : StayF F w w' := ⟨h.size, fun j _ hl => h.block j hl⟩
theorem StayF.less {F G : Nat → Prop} {w w' : World} (h : StayF F w w') (hG : ∀ j, G j → j < w.heap.size → F j) : StayF G w w' := ⟨h.1, fun j hj hl => h.2 j (hG j hj hl) hl⟩
theorem StayF.set {F : Nat → Prop} {w : World} {g o : Nat} {v : Value} (h : ¬ F g) : StayF F w (w.setCell ⟨g, o, none⟩ v) := ⟨by simp, fun j hj _ => heap_setCell_ne _ _ _ _ (fun e => h (by have e : j = g := e; rw [← e]; exact hj))⟩
def IsRow (w : World) (j : Nat) : Prop := ∃ t cs, RowAt w j t cs
theorem IsRow.keep {w w' : World} {j : Nat} (h : IsRow w j) (hk : j < w.heap.size → w'.heap[j]? = w.heap[j]?) : IsRow w' j := by
 obtain ⟨t, cs, h⟩ := h
 exact ⟨t, cs, (hk h.lt).trans h⟩
def RdF (F : Nat → Prop) (w : World) (sz : Nat) (A : Option Addr) (n : Nat) (xs : List Value) : Prop := Rd w w.heap.size sz A n xs ∧ (0 < n → ∀ q, A = some q → F q.block ∧ (¬ F 0 → IsRow w q.block))
theorem RdF.rd {F : Nat → Prop} {w : World} {sz n : Nat} {A : Option Addr} {xs : List Value} (h : RdF F w sz A n xs) : Rd w w.heap.size sz A n xs := h.1
theorem RdF.of {F : Nat → Prop} {w : World} {sz n : Nat} {A : Option Addr} {xs : List Value} (h : Rd w w.heap.size sz A n xs) (hF : 0 < n → ∀ p, A = some p → F p.block) (hr : ¬ F 0 → 0 < n → ∀ p, A = some p → IsRow w p.block) : RdF F w sz A n xs := ⟨h, fun hn q hq => ⟨hF hn q hq, fun h0 => hr h0 hn q hq⟩⟩
theorem Rd.stayF {F : Nat → Prop} {w w' : World} {sz n : Nat} {A : Option Addr} {xs : List Value} (h : Rd w w.heap.size sz A n xs) (hF : 0 < n → ∀ p, A = some p → F p.block) (hs : StayF F w w') : Rd w' w'.heap.size sz A n xs := by
 refine ⟨h.1, fun hn => ?_⟩
 obtain ⟨b, o, rfl, hb, hc⟩ := h.2 hn
 refine ⟨b, o, rfl, Nat.lt_of_lt_of_le hb hs.1, fun j u hu => ?_⟩
 exact (cell_of_heap (hs.2 b (hF hn _ rfl) hb)).trans (hc j u hu)
theorem RdF.stay {F : Nat → Prop} {w w' : World} {sz n : Nat} {A : Option Addr} {xs : List Value} (h : RdF F w sz A n xs) (hs : StayF F w w') : RdF F w' sz A n xs := by
 refine ⟨h.1.stayF (fun hn q hq => (h.2 hn q hq).1) hs, fun hn q hq => ⟨(h.2 hn q hq).1, fun h0 => ((h.2 hn q hq).2 h0).keep (hs.2 _ (h.2 hn q hq).1)⟩⟩
theorem RdF.below {F : Nat → Prop} {w w' : World} {sz n : Nat} {A : Option Addr} {xs : List Value} (h : RdF F w sz A n xs) (hb : Below w.heap.size w w') : RdF F w' sz A n xs := h.stay (StayF.of_below hb)
theorem RdF.up {F G : Nat → Prop} {w : World} {sz n : Nat} {A : Option Addr} {xs : List Value} (h : RdF F w sz A n xs) (hG : ∀ j, F j → j < w.heap.size → G j) : RdF G w sz A n xs := ⟨h.1, fun hn q hq => by
 have hb : q.block < w.heap.size := by obtain ⟨b, o, e, hb, _⟩ := h.1.2 hn; rw [hq] at e; injection e with e; subst e; exact hb
 exact ⟨hG _ (h.2 hn q hq).1 hb, fun h0 => (h.2 hn q hq).2 (fun h1 => h0 (hG 0 h1 (by omega)))⟩⟩
theorem RdF.none_ {F : Nat → Prop} {w : World} {sz : Nat} : RdF F w sz none 0 [] := ⟨Rd.none_, fun h => absurd h (by omega)⟩
theorem RdF.all {w : World} {sz n : Nat} {A : Option Addr} {xs : List Value} (h : Rd w w.heap.size sz A n xs) : RdF (fun _ => True) w sz A n xs := ⟨h, fun _ _ _ => ⟨trivial, fun h => absurd trivial h⟩⟩
theorem RdF.apartE {F : Nat → Prop} {w : World} {n g : Nat} {A : Option Addr} {xs : List Ent} {t : TypeId} {v : Value} (h : RdF F w 2 A n (Cs encE xs)) (hx : xs.length = n) (hg : RowAt w g t #[v]) (hz : g ≠ 0) : RdF (fun j => F j ∧ j ≠ g) w 2 A n (Cs encE xs) := by
 refine ⟨h.1, fun hn q hq => ⟨⟨(h.2 hn q hq).1, fun e => ?_⟩, fun h0 => (h.2 hn q hq).2 (fun h1 => h0 ⟨h1, fun e => hz e.symm⟩)⟩⟩
 obtain ⟨b, o, e1, hb, hc⟩ := h.1.2 hn
 rw [hq] at e1
 injection e1 with e1
 subst e1
 cases xs with
 | nil => simp at hx; omega
 | cons x xs =>
  have h1 := hc 1 (.int .u64 x.2) rfl
  have e : b = g := e
  subst e
  rw [hg.cell] at h1
  simp at h1
theorem RdF.apartW {F : Nat → Prop} {w : World} {n g : Nat} {A : Option Addr} {xs : List Int} {t : TypeId} {z : Int} (h : RdF F w 1 A n (Cs encW xs)) (hx : xs.length = n) (hg : RowAt w g t #[.int .i64 z]) (hz : g ≠ 0) : RdF (fun j => F j ∧ j ≠ g) w 1 A n (Cs encW xs) := by
 refine ⟨h.1, fun hn q hq => ⟨⟨(h.2 hn q hq).1, fun e => ?_⟩, fun h0 => (h.2 hn q hq).2 (fun h1 => h0 ⟨h1, fun e => hz e.symm⟩)⟩⟩
 obtain ⟨b, o, e1, hb, hc⟩ := h.1.2 hn
 rw [hq] at e1
 injection e1 with e1
 subst e1
 cases xs with
 | nil => simp at hx; omega
 | cons x xs =>
  have h1 := hc 0 (.int .u64 x) rfl
  have e : b = g := e
  subst e
  rw [hg.cell] at h1
  cases o with
  | zero => simp at h1
  | succ o => simp at h1
theorem own_typ0 {w : World} {base : Nat} {e : TypeId} {sz n : Nat} {v : Value} {xs : List Value} (h : w.ownsRow base e sz v n xs) {g : Nat} (hg : v.ownBlock = some g) : base ≤ g ∧ ∃ cs, RowAt w g e cs := by
 rcases h.2 with ⟨rfl, h1⟩ | ⟨b, cap, rest, hv, h2, h3, h4⟩
 · cases hg
 ·
  subst hv
  injection hg with hg
  subst hg
  exact ⟨h2, _, h3⟩
theorem RdF.own {F : Nat → Prop} {w : World} {base : Nat} {e : TypeId} {sz n c : Nat} {A : Option Addr} {xs : List Value} (h : w.ownsRow base e sz (.slice A n c) n xs) (hr : Rd w w.heap.size sz A n xs) (hF : ∀ j, base ≤ j → j < w.heap.size → F j) : RdF F w sz A n xs :=
 RdF.of hr (fun hn p hp => hF _ (own_fresh h p hp) (by obtain ⟨b, o, e1, hb, _⟩ := hr.2 hn; rw [hp] at e1; injection e1 with e1; subst e1; exact hb)) (fun _ hn p hp => by obtain ⟨_, cs, h2⟩ := own_typ0 (g := p.block) h (by rw [hp]; rfl); exact ⟨_, _, h2⟩)
abbrev From (B : Nat) : Nat → Prop := fun j => B ≤ j
abbrev MaxLen : Nat := 9223372036854775807
abbrev recC (e : Int) (E : Nat) (A0 As : Option Addr) (n0 c0 ns cs : Nat) (A : Nat → Option Addr) (n c : Nat → Nat) : Array Value :=
 #[.slice A0 n0 c0, .int .u64 e, .slice As ns cs, .int .u64 (E : Int), .slice (A 0) (n 0) (c 0), .slice (A 1) (n 1) (c 1), .slice (A 2) (n 2) (c 2)]
structure RecF (F : Nat → Prop) (w : World) (A0 As : Option Addr) (n0 c0 ns cs : Nat) (A : Nat → Option Addr) (n c : Nat → Nat) (r : Rec) : Prop where
 sl : RdF F w 2 A0 n0 (Cs encE r.sl)
 l0 : r.sl.length = n0
 h0 : n0 ≤ c0
 S : RdF F w 1 As ns (Cs encW r.S)
 ls : r.S.length = ns
 hs : ns ≤ cs ∧ cs ≤ MaxLen
 rw : ∀ k, k < 3 → RdF F w 2 (A k) (n k) (Cs encE (r.l.r k))
 ll : ∀ k, k < 3 → (r.l.r k).length = n k
 hl : ∀ k, k < 3 → n k ≤ c k ∧ c k ≤ MaxLen
theorem RecF.stay {F : Nat → Prop} {w w' : World} {A0 As : Option Addr} {n0 c0 ns cs : Nat} {A : Nat → Option Addr} {n c : Nat → Nat} {r : Rec} (h : RecF F w A0 As n0 c0 ns cs A n c r) (hs : StayF F w w') : RecF F w' A0 As n0 c0 ns cs A n c r :=
 ⟨h.sl.stay hs, h.l0, h.h0, h.S.stay hs, h.ls, h.hs, fun k hk => (h.rw k hk).stay hs, h.ll, h.hl⟩
theorem RecF.below {F : Nat → Prop} {w w' : World} {A0 As : Option Addr} {n0 c0 ns cs : Nat} {A : Nat → Option Addr} {n c : Nat → Nat} {r : Rec} (h : RecF F w A0 As n0 c0 ns cs A n c r) (hb : Below w.heap.size w w') : RecF F w' A0 As n0 c0 ns cs A n c r := h.stay (StayF.of_below hb)
theorem RecF.up {F G : Nat → Prop} {w : World} {A0 As : Option Addr} {n0 c0 ns cs : Nat} {A : Nat → Option Addr} {n c : Nat → Nat} {r : Rec} (h : RecF F w A0 As n0 c0 ns cs A n c r) (hG : ∀ j, F j → j < w.heap.size → G j) : RecF G w A0 As n0 c0 ns cs A n c r :=
 ⟨h.sl.up hG, h.l0, h.h0, h.S.up hG, h.ls, h.hs, fun k hk => (h.rw k hk).up hG, h.ll, h.hl⟩
theorem RecF.apart {F : Nat → Prop} {w : World} {A0 As : Option Addr} {n0 c0 ns cs : Nat} {A : Nat → Option Addr} {n c : Nat → Nat} {r : Rec} {g : Nat} {t : TypeId} {z : Int} (h : RecF F w A0 As n0 c0 ns cs A n c r) (hg : RowAt w g t #[.int .i64 z]) (hz : g ≠ 0) : RecF (fun j => F j ∧ j ≠ g) w A0 As n0 c0 ns cs A n c r :=
 ⟨h.sl.apartE h.l0 hg hz, h.l0, h.h0, h.S.apartW h.ls hg hz, h.ls, h.hs, fun k hk => (h.rw k hk).apartE (h.ll k hk) hg hz, h.ll, h.hl⟩
theorem RecF.lim {F : Nat → Prop} {w : World} {A0 As : Option Addr} {n0 c0 ns cs : Nat} {A : Nat → Option Addr} {n c : Nat → Nat} {r : Rec} (h : RecF F w A0 As n0 c0 ns cs A n c r) : Li.LimRd w w.heap.size A n r.l.r := ⟨fun k hk => (h.rw k hk).rd, h.ll⟩
structure FitR (r : Rec) : Prop where
 sl : r.sl.length ≤ 4096
 S : r.S.length ≤ 4096
 rw : ∀ k, k < 3 → (r.l.r k).length ≤ 4096
 e : 0 ≤ r.e ∧ r.e < 18446744073709551616
 s : ∀ x ∈ r.S, U64 x
 E : r.l.E < 18446744073709551616
 g : ∀ k, k < 3 → ∀ x ∈ r.l.r k, 0 ≤ x.2 ∧ x.2 < 18446744073709551616
def RecOut (F : Nat → Prop) (w : World) (v : Value) (r : Rec) : Prop := ∃ A0 As n0 c0 ns cs A n c, v = .agg (recC r.e r.l.E A0 As n0 c0 ns cs A n c) ∧ RecF F w A0 As n0 c0 ns cs A n c r
theorem RecOut.stay {F : Nat → Prop} {w w' : World} {v : Value} {r : Rec} (h : RecOut F w v r) (hs : StayF F w w') : RecOut F w' v r := by
 obtain ⟨A0, As, n0, c0, ns, cs, A, n, c, hv, h⟩ := h
 exact ⟨A0, As, n0, c0, ns, cs, A, n, c, hv, h.stay hs⟩
theorem RecOut.below {F : Nat → Prop} {w w' : World} {v : Value} {r : Rec} (h : RecOut F w v r) (hb : Below w.heap.size w w') : RecOut F w' v r := h.stay (StayF.of_below hb)
theorem RecOut.up {F G : Nat → Prop} {w : World} {v : Value} {r : Rec} (h : RecOut F w v r) (hG : ∀ j, F j → j < w.heap.size → G j) : RecOut G w v r := by
 obtain ⟨A0, As, n0, c0, ns, cs, A, n, c, hv, h⟩ := h
 exact ⟨A0, As, n0, c0, ns, cs, A, n, c, hv, h.up hG⟩
theorem RecOut.form {F : Nat → Prop} {w : World} {v : Value} {r : Rec} (h : RecOut F w v r) : ∃ v0 v2 v4 v5 v6, v = .agg #[v0, .int .u64 r.e, v2, .int .u64 (r.l.E : Int), v4, v5, v6] := by
 obtain ⟨A0, As, n0, c0, ns, cs, A, n, c, rfl, h⟩ := h
 exact ⟨_, _, _, _, _, rfl⟩
end Go.Proofs.YtkicidopjihjmaaGreat
namespace Go.Proofs.YtkicidopjihjmaaGreat
open Go Go.RowKit
attribute [local go_sem] via_cell via_frozen
theorem eneed_ok (k : Int) (W : World) : Calls Tryz.prog 83 #[.bool true, .int .i64 k] W fun e W' => e = .returned (.tuple #[]) ∧ W = W' := by
 go_enter Tryz.func83, Tryz.ntmps83
 go_wp2
 go_end0
 exact ⟨rfl, rfl⟩
theorem eneed_no (k : Int) (W : World) : Calls Tryz.prog 83 #[.bool false, .int .i64 k] W fun e W' => e = .panicked (errX k) ∧ W = W' := by
 go_enter Tryz.func83, Tryz.ntmps83
 go_wp2
 exact ⟨rfl, rfl, rfl⟩
theorem sureA_no (A : Option Addr) (n c : Nat) (k : Int) (hk : k ≠ 0) (W : World) : Calls Tryz.prog 104 #[.agg #[.slice A n c], .int .i64 k] W fun e W' => e = .panicked (errX k) ∧ Below W.heap.size W W' := by
 have HB := Hi (show Below W.heap.size W ((W.alloc (.cells #[.slice A n c] 24)).alloc (.cells #[.slice none 0 0] 24)) from ((Below.refl _ _).alloc (Nat.le_refl _) _).alloc (by simp) _)
 have hd : (k == 0) = false := by simpa using hk
 clear hk
 go_enter Tryz.func104, Tryz.ntmps104
 go_wp2_with fail
 with_reducible refine (eneed_no k _).mono ?_
 rintro e w3 ⟨rfl, rfl⟩
 exact ⟨rfl, rfl, HB.out⟩
theorem sureA_ok (A : Option Addr) (n c : Nat) (W : World) : Calls Tryz.prog 104 #[.agg #[.slice A n c], .int .i64 0] W fun e W' => e = .returned (.agg #[.slice A n c]) ∧ Below W.heap.size W W' := by
 have al := al2 W #[.slice A n c] 24 #[.slice none 0 0] 24
 have hb1 := al.2.1
 have hb2 := al.2.2
 have HB := Hi (hb1.trans (hb2.mono hb1.size))
 have R1 := Hi ((RowAt.new W 24 #[.slice A n c]).below hb2)
 have R2 := Hi al.1.2
 clear al
 clear hb1 hb2
 go_enter Tryz.func104, Tryz.ntmps104
 go_wp2_with fail
 generalize (W.alloc _).alloc _ = w2 at *
 with_reducible refine (eneed_ok 0 w2).mono ?_
 rintro e w3 ⟨rfl, rfl⟩
 have q0 := cl R1.out 0
 have z0 := cl R2.out 0
 have f0 := R2.out.frozen 0
 have ql := R1.out.lt
 have zl := R2.out.lt
 go_wp2_with fail
 have R3 := Hi (show RowAt (w2.setCell ⟨W.heap.size + 1, 0, none⟩ (.slice A n c)) (W.heap.size + 1) 24 #[.slice A n c] from by have h := (R2.out.set 0 (.slice A n c)); simpa using h)
 have HB3 := Hi ((HB.out.setCell (p := ⟨W.heap.size + 1, 0, none⟩) (by show W.heap.size ≤ W.heap.size + 1; omega) (.slice A n c)))
 clear q0 z0 f0 ql zl
 generalize w2.setCell _ _ = w3 at *
 have y0 := cl R3.out 0
 have cl := R3.out.lt
 exact bodyPost_ret (v := .agg #[.slice A n c]) (by simp [results, Tryz.results104, go_sem, y0, cl]) rfl ⟨rfl, HB3.out⟩
theorem sureP_no (x : Int) (A : Option Addr) (n c : Nat) (k : Int) (hk : k ≠ 0) (W : World) : Calls Tryz.prog 126 #[.agg #[.int .u64 x, .slice A n c], .int .i64 k] W fun e W' => e = .panicked (errX k) ∧ Below W.heap.size W W' := by
 have HB := Hi (show Below W.heap.size W ((W.alloc (.cells #[.int .u64 x, .slice A n c] 28)).alloc (.cells #[.int .u64 0, .slice none 0 0] 28)) from ((Below.refl _ _).alloc (Nat.le_refl _) _).alloc (by simp) _)
 have hd : (k == 0) = false := by simpa using hk
 clear hk
 go_enter Tryz.func126, Tryz.ntmps126
 go_wp2_with fail
 with_reducible refine (eneed_no k _).mono ?_
 rintro e w3 ⟨rfl, rfl⟩
 exact ⟨rfl, rfl, HB.out⟩
theorem sureP_ok (x : Int) (A : Option Addr) (n c : Nat) (W : World) : Calls Tryz.prog 126 #[.agg #[.int .u64 x, .slice A n c], .int .i64 0] W fun e W' => e = .returned (.agg #[.int .u64 x, .slice A n c]) ∧ Below W.heap.size W W' := by
 have al := al2 W #[.int .u64 x, .slice A n c] 28 #[.int .u64 0, .slice none 0 0] 28
 have hb1 := al.2.1
 have hb2 := al.2.2
 have HB := Hi (hb1.trans (hb2.mono hb1.size))
 have R1 := Hi ((RowAt.new W 28 #[.int .u64 x, .slice A n c]).below hb2)
 have R2 := Hi al.1.2
 clear al
 clear hb1 hb2
 go_enter Tryz.func126, Tryz.ntmps126
 go_wp2_with fail
 generalize (W.alloc _).alloc _ = w2 at *
 with_reducible refine (eneed_ok 0 w2).mono ?_
 rintro e w3 ⟨rfl, rfl⟩
 have q0 := cl R1.out 0
 have z0 := cl R2.out 0
 have f0 := R2.out.frozen 0
 have q1 := cl R1.out 1
 have z1 := cl R2.out 1
 have f1 := R2.out.frozen 1
 have ql := R1.out.lt
 have zl := R2.out.lt
 go_wp2_with fail
 have R3 := Hi (show RowAt ((w2.setCell ⟨W.heap.size + 1, 0, none⟩ (.int .u64 x)).setCell ⟨W.heap.size + 1, 1, none⟩ (.slice A n c)) (W.heap.size + 1) 28 #[.int .u64 x, .slice A n c] from by have h := ((R2.out.set 0 (.int .u64 x)).set 1 (.slice A n c)); simpa using h)
 have HB3 := Hi (show Below W.heap.size W ((w2.setCell ⟨W.heap.size + 1, 0, none⟩ (.int .u64 x)).setCell ⟨W.heap.size + 1, 1, none⟩ (.slice A n c)) from ((HB.out.setCell (p := ⟨W.heap.size + 1, 0, none⟩) (by show W.heap.size ≤ W.heap.size + 1; omega) (.int .u64 x)).setCell (p := ⟨W.heap.size + 1, 1, none⟩) (by show W.heap.size ≤ W.heap.size + 1; omega) (.slice A n c)))
 clear q0 z0 f0 q1 z1 f1 ql zl
 generalize (w2.setCell _ _).setCell _ _ = w3 at *
 have y0 := cl R3.out 0
 have y1 := cl R3.out 1
 have cl := R3.out.lt
 exact bodyPost_ret (v := .agg #[.int .u64 x, .slice A n c]) (by simp [results, Tryz.results126, go_sem, y0, y1, cl]) rfl ⟨rfl, HB3.out⟩
theorem sureL_no (x : Int) (a0 a1 a2 : Option Addr) (n0 n1 n2 c0 c1 c2 : Nat) (k : Int) (hk : k ≠ 0) (W : World) : Calls Tryz.prog 107 #[.agg #[.int .u64 x, .slice a0 n0 c0, .slice a1 n1 c1, .slice a2 n2 c2], .int .i64 k] W fun e W' => e = .panicked (errX k) ∧ Below W.heap.size W W' := by
 have HB := Hi (show Below W.heap.size W ((W.alloc (.cells #[.int .u64 x, .slice a0 n0 c0, .slice a1 n1 c1, .slice a2 n2 c2] 32)).alloc (.cells #[.int .u64 0, .slice none 0 0, .slice none 0 0, .slice none 0 0] 32)) from ((Below.refl _ _).alloc (Nat.le_refl _) _).alloc (by simp) _)
 have hd : (k == 0) = false := by simpa using hk
 clear hk
 go_enter Tryz.func107, Tryz.ntmps107
 go_wp2_with fail
 with_reducible refine (eneed_no k _).mono ?_
 rintro e w3 ⟨rfl, rfl⟩
 exact ⟨rfl, rfl, HB.out⟩
theorem sureL_ok (x : Int) (a0 a1 a2 : Option Addr) (n0 n1 n2 c0 c1 c2 : Nat) (W : World) : Calls Tryz.prog 107 #[.agg #[.int .u64 x, .slice a0 n0 c0, .slice a1 n1 c1, .slice a2 n2 c2], .int .i64 0] W fun e W' => e = .returned (.agg #[.int .u64 x, .slice a0 n0 c0, .slice a1 n1 c1, .slice a2 n2 c2]) ∧ Below W.heap.size W W' := by
 have al := al2 W #[.int .u64 x, .slice a0 n0 c0, .slice a1 n1 c1, .slice a2 n2 c2] 32 #[.int .u64 0, .slice none 0 0, .slice none 0 0, .slice none 0 0] 32
 have hb1 := al.2.1
 have hb2 := al.2.2
 have HB := Hi (hb1.trans (hb2.mono hb1.size))
 have R1 := Hi ((RowAt.new W 32 #[.int .u64 x, .slice a0 n0 c0, .slice a1 n1 c1, .slice a2 n2 c2]).below hb2)
 have R2 := Hi al.1.2
 clear al
 clear hb1 hb2
 go_enter Tryz.func107, Tryz.ntmps107
 go_wp2_with fail
 generalize (W.alloc _).alloc _ = w2 at *
 with_reducible refine (eneed_ok 0 w2).mono ?_
 rintro e w3 ⟨rfl, rfl⟩
 have q0 := cl R1.out 0
 have z0 := cl R2.out 0
 have f0 := R2.out.frozen 0
 have q1 := cl R1.out 1
 have z1 := cl R2.out 1
 have f1 := R2.out.frozen 1
 have q2 := cl R1.out 2
 have z2 := cl R2.out 2
 have f2 := R2.out.frozen 2
 have q3 := cl R1.out 3
 have z3 := cl R2.out 3
 have f3 := R2.out.frozen 3
 have ql := R1.out.lt
 have zl := R2.out.lt
 go_wp2_with fail
 have R3 := Hi (show RowAt ((((w2.setCell ⟨W.heap.size + 1, 0, none⟩ (.int .u64 x)).setCell ⟨W.heap.size + 1, 1, none⟩ (.slice a0 n0 c0)).setCell ⟨W.heap.size + 1, 2, none⟩ (.slice a1 n1 c1)).setCell ⟨W.heap.size + 1, 3, none⟩ (.slice a2 n2 c2)) (W.heap.size + 1) 32 #[.int .u64 x, .slice a0 n0 c0, .slice a1 n1 c1, .slice a2 n2 c2] from by have h := ((((R2.out.set 0 (.int .u64 x)).set 1 (.slice a0 n0 c0)).set 2 (.slice a1 n1 c1)).set 3 (.slice a2 n2 c2)); simpa using h)
 have HB3 := Hi (show Below W.heap.size W ((((w2.setCell ⟨W.heap.size + 1, 0, none⟩ (.int .u64 x)).setCell ⟨W.heap.size + 1, 1, none⟩ (.slice a0 n0 c0)).setCell ⟨W.heap.size + 1, 2, none⟩ (.slice a1 n1 c1)).setCell ⟨W.heap.size + 1, 3, none⟩ (.slice a2 n2 c2)) from ((((HB.out.setCell (p := ⟨W.heap.size + 1, 0, none⟩) (by show W.heap.size ≤ W.heap.size + 1; omega) (.int .u64 x)).setCell (p := ⟨W.heap.size + 1, 1, none⟩) (by show W.heap.size ≤ W.heap.size + 1; omega) (.slice a0 n0 c0)).setCell (p := ⟨W.heap.size + 1, 2, none⟩) (by show W.heap.size ≤ W.heap.size + 1; omega) (.slice a1 n1 c1)).setCell (p := ⟨W.heap.size + 1, 3, none⟩) (by show W.heap.size ≤ W.heap.size + 1; omega) (.slice a2 n2 c2)))
 clear q0 z0 f0 q1 z1 f1 q2 z2 f2 q3 z3 f3 ql zl
 generalize (((w2.setCell _ _).setCell _ _).setCell _ _).setCell _ _ = w3 at *
 have y0 := cl R3.out 0
 have y1 := cl R3.out 1
 have y2 := cl R3.out 2
 have y3 := cl R3.out 3
 have cl := R3.out.lt
 exact bodyPost_ret (v := .agg #[.int .u64 x, .slice a0 n0 c0, .slice a1 n1 c1, .slice a2 n2 c2]) (by simp [results, Tryz.results107, go_sem, y0, y1, y2, y3, cl]) rfl ⟨rfl, HB3.out⟩
theorem waiting_any (cs : Array Value) (v0 v1 v2 v3 v4 v5 v6 : Value) (hc : cs = #[v0, v1, v2, v3, v4, v5, v6]) (W : World) : Calls Tryz.prog 57 #[.agg cs] W fun e W' =>
  e = .returned (.func (.func 94) #[] #[.pointer (some ⟨W.heap.size, 0, none⟩)]) ∧ RowAt W' W.heap.size 34 cs ∧ Below W.heap.size W W' := by
 have H1 := Hi (RowAt.new W 34 cs)
 subst hc
 go_enter Tryz.func57, Tryz.ntmps57
 go_wp2
 go_ret
 exact ⟨rfl, H1.out, (Below.refl _ _).alloc (Nat.le_refl _) _⟩
theorem waiting_seq (gp n1 : Nat) (K : Nat → Prop) (e : Int) (A0 As : Option Addr) (n0 c0 ns cs : Nat) (A : Nat → Option Addr) (n c : Nat → Nat) (l : Li.Lim) (w : World) (hk : RowAt w gp 34 (recC e l.E A0 As n0 c0 ns cs A n c)) (hr : Li.LimRd w w.heap.size A n l.r) (hE : l.E < 18446744073709551616) (hm : ∀ k, k < 3 → n k ≤ 4096)
  (hg : ∀ k, k < 3 → ∀ x ∈ l.r k, 0 ≤ x.2 ∧ x.2 < 18446744073709551616) (ho : l.ok = true) (hKn : ∀ j, n1 ≤ j → K j) :
  Seq6 Tryz.prog 94 #[.pointer (some ⟨gp, 0, none⟩)] encEv K (fun ys => ys = l.held) (fun pre => ∃ r, pre ++ r = l.held) (fun _ => False) [] l.held.length n1 n1 (fun x => x ∈ l.held) w := by
 intro lo J Jx W hbW hn1 hJ hJx hY h0
 have HR := Hi (hr.below hbW)
 have hrow := hk.below hbW
 have kc3 := cl hrow 3
 have kc4 := cl hrow 4
 have kc5 := cl hrow 5
 have kc6 := cl hrow 6
 have kcl := hrow.lt
 have HJ := Hi hJ
 have HY := Hi hY
 have H0 := Hi h0
 have HKN := Hi hKn
 have HLI := Hi (show (l.held.length : Int) ≤ 12288 from by have h1 := Li.each_len l n hr.len hm; rw [← Li.each_held, List.length_map]; omega)
 have HC := Hi (Li.held_any w.heap.size A n c l W (hr.below hbW) hE hbW.size hm hg l.held (by rw [ho]; rfl))
 subst hn1
 clear hr hk hJ hJx hY h0 hKn hE hm hrow hg
 refine (callsIn_wide (n := 4)).1 (callsIn_of_wp Tryz.func94 rfl trivial ?_ rfl)
 simp only [Tryz.ntmps94, List.size_toArray, List.length_cons, List.length_nil, Nat.reduceAdd, Nat.reduceSub, Array.replicate_succ, Array.replicate_zero, List.push_toArray, List.append_toArray, List.nil_append, List.cons_append]
 refine wpIn_wide.2 ?_
 go_wp2_with fail
 with_reducible refine HC.out.mono ?_
 rintro e w1 ⟨v, rfl, hown, hb1⟩
 obtain ⟨AH, cH, rfl, hcH⟩ := own_form hown
 have HJ1 := Hi (HJ.out _ _ _ H0.out hb1)
 have hs1 := hb1.size
 have HRH := Hi (RdF.own (F := From W.heap.size) hown (Rd.of_own hown) (fun j h _ => h))
 obtain ⟨m, hmm⟩ : ∃ m, l.held.length = m := ⟨_, rfl⟩
 rw [hmm] at HRH HLI ⊢
 have hmI : (m : Int) ≤ 12288 := HLI.out
 have HLM := Hi hmm
 clear hown hb1 HC hmm kc3 kc4 kc5 kc6 kcl
 go_wp2_with fail
 go_loopw [9] (fun i wr => ∃ (k : Nat), k ≤ m ∧ i = .int .i64 (k : Int) ∧ J (l.held.take k) wr ∧ StayF (From W.heap.size) w1 wr) (fun i _ => m - (intOf i).toNat)
 case atStart => exact ⟨0, Nat.zero_le _, rfl, by simpa using HJ1.out, StayF.refl _ _⟩
 case round =>
  obtain ⟨k, hk, rfl, hj, hst⟩ := hrel
  have HJk := Hi hj
  have HST := Hi hst
  clear hj hst
  by_cases hlt : k < m
  ·
   have hlx : k < l.held.length := by rw [HLM.out]; exact hlt
   obtain ⟨b, o, rfl, hb, d0, d1⟩ := ((HRH.out.stay HST.out).rd).ent HLM.out hlt
   have hkm : (k : Int) < (m : Int) := by omega
   have HTK := Hi (show l.held.take (k + 1) = l.held.take k ++ [l.held.getD k (0, 0)] from by rw [List.take_succ_eq_append_getElem hlx, List.getD_eq_getElem?_getD, List.getElem?_eq_getElem hlx]; rfl)
   have HSP := Hi (show l.held = l.held.take k ++ (l.held.getD k (0, 0) :: l.held.drop (k + 1)) from by rw [List.getD_eq_getElem?_getD, List.getElem?_eq_getElem hlx]; simp)
   have HMX := Hi (show l.held.getD k (0, 0) ∈ l.held from by rw [List.getD_eq_getElem?_getD, List.getElem?_eq_getElem hlx]; exact List.getElem_mem _)
   generalize l.held.getD k (0, 0) = x at *
   obtain ⟨s, g⟩ := x
   dsimp only at d0 d1
   have HBN := Hi (show Below wr.heap.size wr (wr.alloc (.cells #[.int .i64 s, .int .u64 g] 41)) from (Below.refl _ _).alloc (Nat.le_refl _) _)
   have HJ2 := Hi (HJ.out _ _ _ HJk.out HBN.out)
   have HRN := Hi (RowAt.new wr 41 #[.int .i64 s, .int .u64 g])
   have HST2 := Hi (HST.out.trans (StayF.of_below HBN.out))
   have hbw : b < wr.heap.size := hb
   obtain ⟨fn, tmps, assign, body, hy, hR⟩ := HY.out _ (s, g) _ HJ2.out (by rw [List.length_take]; omega) HMX.out (by have := HST2.out.1; omega)
   dsimp only [encEv] at hy
   have HRR := Hi hR
   clear hR hb
   go_upto_region 3 with (fail)
   clear d0 d1 hbw
   generalize wr.alloc _ = w2 at *
   have e0 := row20 HRN.out
   have e1 := row21 HRN.out
   have hgl := HRN.out.lt
   refine (wpIn_wide (n := 4)).1 ?_
   gi_wp2
   refine HRR.out.mono ?_
   rintro e W3 (⟨rfl, hJ3, hz3, hk3⟩ | ⟨rfl, hJx3⟩)
   ·
    have HJ3 := Hi (show J (l.held.take (k + 1)) W3 from by rw [HTK.out]; exact hJ3)
    have HST3 := Hi (show StayF (From W.heap.size) w1 W3 from HST2.out.trans ⟨hz3, fun j hj hl => hk3 j (HKN.out j hj) hl⟩)
    clear hJ3 hk3 hz3
    gi_wp2
    go_wp2_with fail
    go_roundw
    case rel => exact ⟨k + 1, by omega, by go_num, HJ3.out, HST3.out⟩
    case measure => simp [intOf]; omega
   ·
    have HJ4 := Hi hJx3
    have HF := Hi (show ∃ r, (l.held.take k ++ [(s, g)]) ++ r = l.held from ⟨l.held.drop (k + 1), by rw [List.append_assoc]; exact HSP.out.symm⟩)
    clear hJx3
    gi_wp2
    go_wp2_with fail
    refine bodyPost_ret (results_none rfl _ _ _) rfl ?_
    exact .inl ⟨_, rfl, .inr ⟨_, HF.out, HJ4.out⟩⟩
  ·
   obtain rfl : k = m := by omega
   have HJ3 := Hi (show J l.held wr from by
    have := HJk.out
    rwa [List.take_of_length_le (by rw [HLM.out]; exact Nat.le_refl _)] at this)
   go_wp2_with fail
   go_end0
   exact .inl ⟨_, rfl, .inl ⟨_, rfl, HJ3.out⟩⟩
end Go.Proofs.YtkicidopjihjmaaGreat
set_option maxRecDepth 20000
namespace Go.Proofs.YtkicidopjihjmaaGreat.Pn
open Go Go.RowKit
attribute [local go_sem] via_cell via_frozen
def encB (x : Bool) : List Value := [.bool x]
theorem encB_len : ∀ x, (encB x).length = 1 := fun _ => rfl
theorem elW : ElemOk Tryz.prog 26 25 1 8 (.int .u64 0) := ⟨Tryz.underlying26, by kernel_rfl, rfl, by omega, by omega, by intro u hu; simp [Value.cells] at hu; subst hu; rfl⟩
theorem elI : ElemOk Tryz.prog 66 3 1 8 (.int .i64 0) := ⟨Tryz.underlying66, by kernel_rfl, rfl, by omega, by omega, by intro u hu; simp [Value.cells] at hu; subst hu; rfl⟩
theorem CloneW (B : Nat) (A : Option Addr) (n c : Nat) (xs : List Value) (W : World) (hr : Rd W B 1 A n xs) (hB : B ≤ W.heap.size) (h1 : ∀ u ∈ xs, u.oneCell' = true) (hb : n ≤ 4096) :
  Calls Tryz.prog 39 #[.slice A n c] W fun e W' => ∃ v, e = .returned v ∧ W'.ownsRow W.heap.size 25 1 v n xs ∧ Below W.heap.size W W' := by
 cases A with
 | none =>
  obtain rfl := rd_none hr
  obtain rfl := hr.nil
  have hn := fun w => Lib.run_eql_slice_nil (P := Tryz.prog) w 26 25 none 0 c 0 0 Tryz.underlying26
  go_enter Tryz.func39, Tryz.ntmps39
  go_wp2
  go_ret
  exact ⟨_, rfl, World.ownsRow_nil _ _ _ _, Below.refl _ _⟩
 | some a =>
  have hn := fun w => Lib.run_eql_slice_nil (P := Tryz.prog) w 26 25 (some a) n c 0 0 Tryz.underlying26
  have hown := World.ownsRow_lit (base := W.heap.size) (e := 25) (size := 1) W #[] 0 (Nat.le_refl _) (by simp [maxLen]) rfl
  go_enter Tryz.func39, Tryz.ntmps39
  go_wp2_with (at_builtin; refine wpList_app elW rfl _ _ rfl rfl hown rfl (hr.alloc hB _) h1 (by omega) (by simp) ?_; intro v1 w1 hown1 hb1 _ _)
  go_ret
  exact ⟨v1, rfl, by simpa using hown1, ((Below.refl _ _).alloc (Nat.le_refl _) _).trans hb1⟩
theorem IndexFW (B : Nat) (A : Option Addr) (c g : Nat) (lb : Array Value) (hg : ∀ args w, (callFunc g args).run Tryz.prog w = .ok (.enter g args) w) (p : Int → Bool) (xs : List Int) (W : World) (h1 : Rd W B 1 A xs.length (Cs encW xs)) (hB1 : B ≤ W.heap.size) (hl1 : xs.length ≤ 4096)
  (HC : ∀ w x, Below W.heap.size W w → x ∈ xs → Calls Tryz.prog g (#[.int .u64 x] ++ lb) w fun e w' => e = .returned (.bool (p x)) ∧ Below w.heap.size w w') :
  Calls Tryz.prog 148 #[.slice A xs.length c, .func (.func g) #[] lb] W fun e W' => ∃ i : Int, e = .returned (.int .i64 i) ∧ decide (0 ≤ i) = xs.any p ∧ Below W.heap.size W W' := by
 have HC := Hi HC
 go_enter Tryz.func148, Tryz.ntmps148
 go_wp2_with fail
 go_loopw [8] (fun i wr => ∃ k : Nat, k ≤ xs.length ∧ i = .int .i64 k ∧ (xs.take k).any p = false ∧ Below W.heap.size W wr) (fun i _ => xs.length - (intOf i).toNat)
 case atStart => exact ⟨0, Nat.zero_le _, rfl, rfl, Below.refl _ _⟩
 case round =>
  obtain ⟨k, hk, rfl, hpre, hbw⟩ := hrel
  have HP := Hi hpre
  clear hpre
  by_cases hlt : k < xs.length
  ·
   obtain ⟨b1, o1, rfl, hb1, hc1⟩ := (h1.below (hbw.mono hB1)).elem encW_len hlt
   have hd10 := hc1 0 _ (by omega) rfl
   simp only [Nat.mul_one, Nat.add_zero] at hd10
   clear hc1
   have HK := Hi (HC.out wr xs[k] hbw (List.getElem_mem hlt))
   have HX := Hi (show xs.take (k + 1) = xs.take k ++ [xs[k]] from List.take_succ_eq_append_getElem hlt)
   have HM := Hi (List.getElem_mem hlt)
   generalize xs[k] = x at *
   obtain ⟨r, hr⟩ : ∃ r, p x = r := ⟨_, rfl⟩
   have HR := Hi hr
   rw [hr] at HK
   clear hr
   cases r
   ·
    go_wp2_with fail
    refine HK.out.mono ?_
    rintro e w1 ⟨rfl, hb2⟩
    go_wp2_with fail
    go_roundw
    case rel => exact ⟨k + 1, by omega, by go_num, by rw [HX.out, List.any_append, HP.out]; simpa using HR.out, hbw.trans (hb2.mono hbw.size)⟩
    case measure => simp [intOf]; omega
   ·
    go_wp2_with fail
    refine HK.out.mono ?_
    rintro e w1 ⟨rfl, hb2⟩
    go_wp2_with fail
    go_ret
    refine ⟨_, rfl, ?_, hbw.trans (hb2.mono hbw.size)⟩
    have h2 : xs.any p = true := by
     rw [List.any_eq_true]
     exact ⟨x, HM.out, HR.out⟩
    rw [h2]; simp
  ·
   go_wp2_with fail
   go_ret
   refine ⟨_, rfl, ?_, hbw⟩
   have h := HP.out
   rw [List.take_of_length_le (by omega)] at h
   rw [h]; simp
theorem ContainsFW (B : Nat) (A : Option Addr) (c g : Nat) (lb : Array Value) (hg : ∀ args w, (callFunc g args).run Tryz.prog w = .ok (.enter g args) w) (p : Int → Bool) (xs : List Int) (W : World) (h1 : Rd W B 1 A xs.length (Cs encW xs)) (hB1 : B ≤ W.heap.size) (hl1 : xs.length ≤ 4096)
  (HC : ∀ w x, Below W.heap.size W w → x ∈ xs → Calls Tryz.prog g (#[.int .u64 x] ++ lb) w fun e w' => e = .returned (.bool (p x)) ∧ Below w.heap.size w w') :
  Calls Tryz.prog 121 #[.slice A xs.length c, .func (.func g) #[] lb] W fun e W' => e = .returned (.bool (xs.any p)) ∧ Below W.heap.size W W' := by
 have HI := Hi (IndexFW B A c g lb hg p xs W h1 hB1 hl1 HC)
 clear HC
 go_enter Tryz.func121, Tryz.ntmps121
 go_wp2_with fail
 refine HI.out.mono ?_
 rintro e w1 ⟨i, rfl, hi, hb⟩
 have HI := Hi hi
 clear hi
 go_wp2_with fail
 go_ret
 exact ⟨ret_bool HI.out, hb⟩
theorem IndexBB (B : Nat) (A : Option Addr) (c : Nat) (xs : List Bool) (W : World) (h1 : Rd W B 1 A xs.length (Cs encB xs)) (hB1 : B ≤ W.heap.size) (hl1 : xs.length ≤ 4096) :
  Calls Tryz.prog 167 #[.slice A xs.length c, .bool true] W fun e W' => ∃ i : Int, e = .returned (.int .i64 i) ∧ decide (0 ≤ i) = xs.any id ∧ W = W' := by
 go_enter Tryz.func167, Tryz.ntmps167
 go_wp2_with fail
 go_loop [8] (fun i => ∃ k : Nat, k ≤ xs.length ∧ i = .int .i64 k ∧ (xs.take k).any id = false) (fun i => xs.length - (intOf i).toNat)
 case atStart => exact ⟨0, Nat.zero_le _, rfl, rfl⟩
 case round =>
  obtain ⟨k, hk, rfl, hpre⟩ := hrel
  have HP := Hi hpre
  clear hpre
  by_cases hlt : k < xs.length
  ·
   obtain ⟨b1, o1, rfl, hb1, hc1⟩ := h1.elem encB_len hlt
   have hd10 := hc1 0 _ (by omega) rfl
   simp only [Nat.mul_one, Nat.add_zero] at hd10
   clear hc1
   have HX := Hi (show xs.take (k + 1) = xs.take k ++ [xs[k]] from List.take_succ_eq_append_getElem hlt)
   have HM := Hi (List.getElem_mem hlt)
   generalize xs[k] = x at *
   cases x
   ·
    go_wp2_with fail
    go_round
    case rel => exact ⟨k + 1, by omega, by go_num, by rw [HX.out, List.any_append, HP.out]; rfl⟩
    case measure => simp [intOf]; omega
   ·
    go_wp2_with fail
    go_ret
    refine ⟨_, rfl, ?_, rfl⟩
    have h2 : xs.any id = true := by rw [List.any_eq_true]; exact ⟨true, HM.out, rfl⟩
    rw [h2]; simp
  ·
   go_wp2_with fail
   go_ret
   refine ⟨_, rfl, ?_, rfl⟩
   have h := HP.out
   rw [List.take_of_length_le (by omega)] at h
   rw [h]; simp
theorem ContainsBB (B : Nat) (A : Option Addr) (c n : Nat) (xs : List Bool) (W : World) (h1 : Rd W B 1 A n (Cs encB xs)) (hn : xs.length = n) (hB1 : B ≤ W.heap.size) (hl1 : n ≤ 4096) (r : Bool) (hr : xs.any id = r) :
  Calls Tryz.prog 164 #[.slice A n c, .bool true] W fun e W' => e = .returned (.bool r) ∧ W = W' := by
 subst hn
 have HI := Hi (IndexBB B A c xs W h1 hB1 hl1)
 rw [hr] at HI
 clear hr
 go_enter Tryz.func164, Tryz.ntmps164
 go_wp2_with fail
 refine HI.out.mono ?_
 rintro e w1 ⟨i, rfl, hi, rfl⟩
 have HI := Hi hi
 clear hi
 go_wp2_with fail
 go_ret
 exact ⟨ret_bool HI.out, rfl⟩
end Go.Proofs.YtkicidopjihjmaaGreat.Pn
set_option maxRecDepth 20000
namespace Go.Proofs.YtkicidopjihjmaaGreat.Pn
open Go Go.RowKit
attribute [local go_sem] via_cell via_frozen
theorem need_ok (k : Int) (W : World) : Calls Tryz.prog 163 #[.bool true, .int .i64 k] W fun e W' => e = .returned (.tuple #[]) ∧ W = W' := by
 go_enter Tryz.func163, Tryz.ntmps163
 go_wp2
 go_end0
 exact ⟨rfl, rfl⟩
theorem need_no (k : Int) (W : World) : Calls Tryz.prog 163 #[.bool false, .int .i64 k] W fun e W' => e = .panicked (errX k) ∧ W = W' := by
 go_enter Tryz.func163, Tryz.ntmps163
 go_wp2
 exact ⟨rfl, rfl, rfl⟩
theorem right_any (gP : Nat) (e s : Int) (v : Value) (W : World) (hr : RowAt W gP 28 #[.int .u64 e, v]) (h0 : 0 ≤ e) (h1 : e ≤ 4611686018427387904) :
  Calls Tryz.prog 91 #[.int .u64 s, .pointer (some ⟨gP, 0, none⟩)] W fun x W' => x = .returned (.bool (decide (s ≤ e + 1))) ∧ W = W' := by
 have q0 := row20 hr
 have l0 := hr.lt
 have e0 : (0 : Int) ≤ e + 1 := by omega
 have e1 : e + 1 < 18446744073709551616 := by omega
 clear hr
 go_enter Tryz.func91, Tryz.ntmps91
 go_wp2
 go_ret
 exact ⟨rfl, rfl⟩
theorem all1_any (gb gP : Nat) (e s : Int) (v : Value) (W : World) (hr : RowAt W gP 28 #[.int .u64 e, v]) (hc : W.cell? ⟨gb, 0, none⟩ = some (.func (.func 91) #[] #[.pointer (some ⟨gP, 0, none⟩)])) (hgb : gb < W.heap.size) (h0 : 0 ≤ e) (h1 : e ≤ 4611686018427387904) (r : Bool) (hrr : (!decide (s ≤ e + 1)) = r) :
  Calls Tryz.prog 122 #[.int .u64 s, .pointer (some ⟨gb, 0, none⟩)] W fun x W' => x = .returned (.bool r) ∧ W = W' := by
 obtain ⟨q, hq⟩ : ∃ q, decide (s ≤ e + 1) = q := ⟨_, rfl⟩
 have HC := Hi (right_any gP e s v W hr h0 h1)
 rw [hq] at HC hrr
 clear hq hr
 subst hrr
 go_enter Tryz.func122, Tryz.ntmps122
 go_wp2_with fail
 refine HC.out.mono ?_
 rintro e w1 ⟨rfl, rfl⟩
 go_wp2_with fail
 go_ret
 exact ⟨rfl, rfl⟩
theorem all_any (B gP : Nat) (A : Option Addr) (c n : Nat) (e : Int) (v : Value) (xs : List Int) (W : World) (h : Rd W B 1 A n (Cs encW xs)) (hx : xs.length = n) (hB : B ≤ W.heap.size) (hl : n ≤ 4096) (hr : RowAt W gP 28 #[.int .u64 e, v]) (h0 : 0 ≤ e) (h1 : e ≤ 4611686018427387904)
  (r : Bool) (hrr : (xs.all fun s => decide (s ≤ e + 1)) = r) :
  Calls Tryz.prog 90 #[.slice A n c, .func (.func 91) #[] #[.pointer (some ⟨gP, 0, none⟩)]] W fun x W' => x = .returned (.bool r) ∧ Below W.heap.size W W' := by
 subst hx
 have hbn := ba W (.cells #[.func (.func 91) #[] #[.pointer (some ⟨gP, 0, none⟩)]] 132)
 have hrow : RowAt (W.alloc (.cells #[.func (.func 91) #[] #[.pointer (some ⟨gP, 0, none⟩)]] 132)) W.heap.size 132 #[.func (.func 91) #[] #[.pointer (some ⟨gP, 0, none⟩)]] := RowAt.new _ _ _
 have hr1 := hr.below hbn
 have HC := Hi (ContainsFW B A c 122 #[.pointer (some ⟨W.heap.size, 0, none⟩)] (enters_of Tryz.func122 (by kernel_rfl) rfl) (fun s => !decide (s ≤ e + 1)) xs _ (h.below (hbn.mono hB)) (by simp; omega) hl
  (fun w x hw hx => (all1_any W.heap.size gP e x v w (hr1.below hw) ((hrow.below hw).cell 0) (hrow.below hw).lt h0 h1 _ rfl).mono fun _ _ ⟨h1, h2⟩ => ⟨h1, h2 ▸ Below.refl _ _⟩))
 have HR := Hi hrr
 clear hrow hbn hr1 hr hrr
 go_enter Tryz.func90, Tryz.ntmps90
 go_wp2_with fail
 refine HC.out.mono ?_
 rintro e w1 ⟨rfl, hb⟩
 go_wp2_with fail
 go_ret
 refine ⟨ret_bool ?_, ((Below.refl _ _).alloc (Nat.le_refl _) _).trans (hb.mono (by simp))⟩
 rw [← HR.out, List.all_eq_not_any_not]
theorem check_any (A : Option Addr) (c n : Nat) (e : Int) (S : List Int) (W : World) (h1 : Rd W W.heap.size 1 A n (Cs encW S)) (hx : S.length = n) (h0 : 0 ≤ e) (hl : n ≤ 4096) (k : Int) (hk : (if pOk e S = true then 0 else 230) = k) :
  Calls Tryz.prog 54 #[.agg #[.int .u64 e, .slice A n c]] W fun x W' => x = .returned (.int .i64 k) ∧ Below W.heap.size W W' := by
 have HK := Hi hk
 have hbn := ba W (.cells #[.int .u64 e, .slice A n c] 28)
 have hrow : RowAt (W.alloc (.cells #[.int .u64 e, .slice A n c] 28)) W.heap.size 28 #[.int .u64 e, .slice A n c] := RowAt.new _ _ _
 clear hk
 by_cases g1 : 1 ≤ n
 ·
  by_cases g8 : n ≤ 8
  ·
   by_cases ge : e ≤ 4611686018427387904
   ·
    obtain ⟨r, hr⟩ : ∃ r, (S.all fun s => decide (s ≤ e + 1)) = r := ⟨_, rfl⟩
    have HC := Hi (all_any W.heap.size W.heap.size A c n e (.slice A n c) S _ (h1.below hbn) hx hbn.size hl hrow h0 ge r hr)
    have HR := Hi hr
    have HB := Hi hbn
    have HX := Hi hx
    have ge' : decide (4611686018427387904 < e) = false := by simp; omega
    clear hr hbn hrow hx
    go_enter Tryz.func54, Tryz.ntmps54
    go_wp2_with fail
    refine HC.out.mono ?_
    rintro x w1 ⟨rfl, hb⟩
    cases r
    ·
     go_wp2_with fail
     go_ret
     exact ⟨ret_int (by have hp : pOk e S = false := by { rw [pOk, HR.out]; simp }; rw [← HK.out, hp]; rfl), HB.out.trans (hb.mono HB.out.size)⟩
    ·
     go_wp2_with fail
     go_ret
     exact ⟨ret_int (by rw [← HK.out]; have hp : pOk e S = true := by { rw [pOk, HR.out, HX.out]; simp [g1, g8, ge] }; rw [hp]; rfl), HB.out.trans (hb.mono HB.out.size)⟩
   ·
    have ge' : 4611686018427387904 < e := by omega
    have HX := Hi hx
    clear hx hrow
    go_enter Tryz.func54, Tryz.ntmps54
    go_wp2_with fail
    go_ret
    exact ⟨ret_int (by rw [← HK.out]; simp [pOk]; intros; omega), hbn⟩
  ·
   have g8' : ¬ ((n : Int) ≤ 8) := by omega
   have HX := Hi hx
   clear hx hrow
   go_enter Tryz.func54, Tryz.ntmps54
   go_wp2_with fail
   go_ret
   exact ⟨ret_int (by rw [← HK.out]; simp [pOk, HX.out, g8]), hbn⟩
 ·
  have HX := Hi hx
  clear hx hrow
  go_enter Tryz.func54, Tryz.ntmps54
  go_wp2_with fail
  go_ret
  exact ⟨ret_int (by rw [← HK.out]; simp [pOk, HX.out, g1]), hbn⟩
theorem rright_any (A : Option Addr) (c n : Nat) (e : Int) (S : List Int) (W : World) (h1 : Rd W W.heap.size 1 A n (Cs encW S)) (hx : S.length = n) (hl : n ≤ 4096) (h0 : 0 ≤ e) (hS : ∀ s ∈ S, U64 s) (r : Bool) (hr : pOk e S = r) :
  Calls Tryz.prog 42 #[.agg #[.int .u64 e, .slice A n c]] W fun x W' => x = .returned (.bool r) ∧ Below W.heap.size W W' := by
 subst hx
 have HR := Hi hr
 have HS := Hi hS
 have hb0 := ba W (.cells #[.int .u64 e, .slice A S.length c] 28)
 have hrow : RowAt (W.alloc (.cells #[.int .u64 e, .slice A S.length c] 28)) W.heap.size 28 #[.int .u64 e, .slice A S.length c] := RowAt.new _ _ _
 have h1' := h1.below hb0
 clear hr hS h1
 go_enter Tryz.func42, Tryz.ntmps42
 go_wp2_with fail
 generalize W.alloc _ = w0 at *
 have q0 := row20 hrow
 have q1 := row21 hrow
 have l0 := hrow.lt
 have HB := Hi hb0
 clear hrow hb0
 go_loop [8] (fun i => ∃ k : Nat, k ≤ S.length ∧ i = .int .i64 k ∧ ∀ s ∈ S.take k, s ≤ e + 1) (fun i => S.length - (intOf i).toNat)
 case atStart => exact ⟨0, Nat.zero_le _, rfl, by simp⟩
 case round =>
  obtain ⟨k, hk, rfl, hpre⟩ := hrel
  have HP := Hi hpre
  clear hpre
  by_cases hlt : k < S.length
  ·
   obtain ⟨b1, o1, rfl, hb1, hc1⟩ := h1'.elem encW_len hlt
   have hd10 := hc1 0 _ (by omega) rfl
   simp only [Nat.mul_one, Nat.add_zero] at hd10
   clear hc1
   have hb1w : b1 < w0.heap.size := by have := HB.out.size; omega
   have HX := Hi (show S.take (k + 1) = S.take k ++ [S[k]] from List.take_succ_eq_append_getElem hlt)
   have HM := Hi (List.getElem_mem hlt)
   have HU := Hi (HS.out _ (List.getElem_mem hlt))
   generalize S[k] = s at *
   by_cases hs0 : 0 < s
   ·
    have u0 : (0 : Int) ≤ s - 1 := by omega
    have u1 : s - 1 < 18446744073709551616 := by have := HU.out; unfold U64 at this; omega
    by_cases hse : e < s - 1
    ·
     go_wp2_with fail
     go_ret
     refine ⟨ret_bool ?_, HB.out⟩
     rw [← HR.out, eq_comm]
     cases hp : pOk e S with
     | false => rfl
     | true => have := (pOk_out hp).2.2.2 s HM.out; omega
    ·
     have hse' : decide (e < s - 1) = false := by simp; omega
     go_wp2_with fail
     go_round
     case rel => exact ⟨k + 1, by omega, by go_num, fun x hx => by rw [HX.out, List.mem_append] at hx; rcases hx with hx | hx; exact HP.out x hx; simp at hx; omega⟩
     case measure => simp [intOf]; omega
   ·
    have hs0' : decide (0 < s) = false := by simp; omega
    go_wp2_with fail
    go_round
    case rel => exact ⟨k + 1, by omega, by go_num, fun x hx => by rw [HX.out, List.mem_append] at hx; rcases hx with hx | hx; exact HP.out x hx; simp at hx; omega⟩
    case measure => simp [intOf]; omega
  ·
   have HE := Hi (show pOk e S = (decide (1 ≤ S.length) && (decide (S.length ≤ 8) && decide (e ≤ 4611686018427387904))) by
    have h := HP.out
    rw [List.take_of_length_le (by omega)] at h
    have : (S.all fun s => decide (s ≤ e + 1)) = true := by rw [List.all_eq_true]; intro s hs; simpa using h s hs
    rw [pOk, this, Bool.and_true])
   by_cases g1 : 1 ≤ S.length
   ·
    by_cases g8 : S.length ≤ 8
    ·
     obtain ⟨b, hb⟩ : ∃ b, decide (e ≤ 4611686018427387904) = b := ⟨_, rfl⟩
     go_wp2_with fail
     go_ret
     exact ⟨ret_bool (by rw [← HR.out, HE.out]; simp [g1, g8, ← hb]), HB.out⟩
    ·
     have g8' : ¬ ((S.length : Int) ≤ 8) := by omega
     go_wp2_with fail
     go_ret
     exact ⟨ret_bool (by rw [← HR.out, HE.out]; simp [g8]), HB.out⟩
   ·
    go_wp2_with fail
    go_ret
    exact ⟨ret_bool (by rw [← HR.out, HE.out]; simp [g1]), HB.out⟩
theorem rsame_any (A1 A2 : Option Addr) (c1 c2 n1 n2 : Nat) (e1 e2 : Int) (xs ys : List Int) (W : World) (h1 : Rd W W.heap.size 1 A1 n1 (Cs encW xs)) (h2 : Rd W W.heap.size 1 A2 n2 (Cs encW ys)) (hx : xs.length = n1) (hy : ys.length = n2)
  (hl1 : n1 ≤ 4096) (hl2 : n2 ≤ 4096) (r : Bool) (hr : decide (e1 = e2 ∧ xs = ys) = r) :
  Calls Tryz.prog 51 #[.agg #[.int .u64 e1, .slice A1 n1 c1], .agg #[.int .u64 e2, .slice A2 n2 c2]] W fun e W' => e = .returned (.bool r) ∧ Below W.heap.size W W' := by
 subst hx hy
 have HRR := Hi hr
 clear hr
 have hb0 := ((Below.refl W.heap.size W).alloc (Nat.le_refl _) (.cells #[.int .u64 e1, .slice A1 xs.length c1] 28)).alloc (by simp) (.cells #[.int .u64 e2, .slice A2 ys.length c2] 28)
 by_cases he : e1 = e2
 ·
  subst he
  have hee : (e1 != e1) = false := by simp
  by_cases hlen : xs.length = ys.length
  ·
   have ht : ((xs.length : Int) != (ys.length : Int)) = false := by rw [bne_eq_false_iff_eq]; omega
   have HL := Hi hlen
   clear hlen
   have hr2 : RowAt ((W.alloc (.cells #[.int .u64 e1, .slice A1 xs.length c1] 28)).alloc (.cells #[.int .u64 e1, .slice A2 ys.length c2] 28)) (W.heap.size + 1) 28 #[.int .u64 e1, .slice A2 ys.length c2] := by
    have h := RowAt.new (W.alloc (.cells #[.int .u64 e1, .slice A1 xs.length c1] 28)) 28 #[.int .u64 e1, .slice A2 ys.length c2]
    rw [World.size_alloc] at h; exact h
   have h1' := h1.below hb0
   have h2' := h2.below hb0
   have HR2 := Hi hr2
   clear hr2 h1 h2
   go_enter Tryz.func51, Tryz.ntmps51
   go_wp2_with fail
   generalize (W.alloc _).alloc _ = w0 at *
   have HB0 := Hi hb0
   have hs0 := hb0.size
   have q2 := row21 HR2.out
   have l2 := HR2.out.lt
   clear hb0
   go_loop [24] (fun i => ∃ k : Nat, k ≤ xs.length ∧ i = .int .i64 k ∧ xs.take k = ys.take k) (fun i => xs.length - (intOf i).toNat)
   case atStart => exact ⟨0, Nat.zero_le _, rfl, rfl⟩
   case round =>
    obtain ⟨k, hk, rfl, hpre⟩ := hrel
    have HP := Hi hpre
    clear hpre
    by_cases hlt : k < xs.length
    ·
     have hlt2 : k < ys.length := by have := HL.out; omega
     obtain ⟨b1, o1, rfl, hb1, hc1⟩ := h1'.elem encW_len hlt
     obtain ⟨b2, o2, rfl, hb2, hc2⟩ := h2'.elem encW_len hlt2
     have hd10 := hc1 0 _ (by omega) rfl
     have hd20 := hc2 0 _ (by omega) rfl
     simp only [Nat.mul_one, Nat.add_zero] at hd10 hd20
     clear hc1 hc2
     have hi2 : (k : Int) < (ys.length : Int) := by omega
     have hbl1 : b1 < w0.heap.size := by omega
     have hbl2 : b2 < w0.heap.size := by omega
     generalize hx : xs[k] = x at *
     generalize hy : ys[k] = y at *
     have HX := Hi hx
     have HY := Hi hy
     clear hx hy
     by_cases hxy : x = y
     ·
      subst hxy
      have hne : (x != x) = false := by simp
      go_wp2_with fail
      go_round
      case rel => exact ⟨k + 1, by omega, by go_num, by rw [List.take_succ_eq_append_getElem hlt, List.take_succ_eq_append_getElem hlt2, HP.out, HX.out, HY.out]⟩
      case measure => simp [intOf]; omega
     ·
      have hne : (x != y) = true := by simpa using hxy
      go_wp2_with fail
      go_ret
      exact ⟨ret_bool (by rw [← HRR.out]; simp; intro h; apply hxy; rw [← HX.out, ← HY.out]; simp [h]), HB0.out⟩
    ·
     go_wp2_with fail
     go_ret
     have he : xs = ys := by have h := HP.out; rw [List.take_of_length_le (by omega), List.take_of_length_le (by have := HL.out; omega)] at h; exact h
     exact ⟨ret_bool (by rw [← HRR.out]; simp [he]), HB0.out⟩
  ·
   have ht : ((xs.length : Int) != (ys.length : Int)) = true := by rw [bne_iff_ne]; omega
   go_enter Tryz.func51, Tryz.ntmps51
   go_wp2
   go_ret
   exact ⟨ret_bool (by rw [← HRR.out]; simp; intro h; exact hlen (by rw [h])), hb0⟩
 ·
  have hee : (e1 != e2) = true := by simpa using he
  go_enter Tryz.func51, Tryz.ntmps51
  go_wp2
  go_ret
  exact ⟨ret_bool (by rw [← HRR.out]; simp [he]), hb0⟩
theorem Cs_rep (n : Nat) : (madeCells (Value.int .u64 0).cells (n * 1)).toList = Cs encW (List.replicate n 0) := by
 apply List.ext_getElem?
 intro j
 by_cases hj : j < n
 ·
  have h2 : j < (List.replicate n (0 : Int)).length := by simpa using hj
  have h4 := Cs_at encW_len (List.replicate n 0) j 0 h2 (by omega)
  simp only [Nat.mul_one, Nat.add_zero] at h4
  rw [h4]
  simp [madeCells, hj, Value.cells, encW, Nat.mod_one]
 · rw [List.getElem?_eq_none (l := Cs encW (List.replicate n 0)) (by rw [Cs_length encW_len]; simp; omega), List.getElem?_eq_none (by simp [madeCells]; omega)]
theorem new_no (n : Int) (W : World) (h : ¬ (1 ≤ n ∧ n ≤ 8)) :
  Calls Tryz.prog 66 #[.int .i64 n] W fun e W' => e = .returned (.tuple #[.agg #[.int .u64 0, .slice none 0 0], .int .i64 2]) ∧ Below W.heap.size W W' := by
 by_cases h0 : n < 1
 focus
  skip
 rotate_left
 focus
  have h0' : decide (n < 1) = false := by simp; omega
  have h1 : 8 < n := by omega
 rotate_left
 all_goals
  go_enter Tryz.func66, Tryz.ntmps66
  go_wp2
  refine bodyPost_ret (v := .tuple #[.agg #[.int .u64 0, .slice none 0 0], .int .i64 2]) (by simp [results, Tryz.results66, go_sem]) rfl ⟨rfl, ?_⟩
  exact (Below.refl _ _).alloc (Nat.le_refl _) _
end Go.Proofs.YtkicidopjihjmaaGreat.Pn
