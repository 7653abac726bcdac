/-
  Part of a proof: ZOps says of what.
-/
import Derived.WalkKit
import Derived.WalkSpells
import Derived.WalkLawsBesides
import Derived.Handy
import Derived.BigQuiet
import Derived.Deep.QuietTactic
import Derived.Maps.AppendAt
import Derived.Deep.Draws
import Derived.Deep.RegionWith
import Derived.Deep.RegionHeld3
import Derived.Laws.OwnMore
import Derived.Deep.AppendLies
import Derived.ProofKit
import Derived.ChangeSame
import Derived.Test.YtkicidopjihjmaaGreatRows
import Derived.OpenShut
import Derived.Carry
import Derived.Lib.SmallJoins
import Derived.Deep.Slices
import Derived.Deep.Fields
import Derived.RangeFuncNested
import Derived.RangeFuncBound
import Derived.RangeFuncCalls
import Derived.RangeFuncLeaves
import Derived.OwnWalkIn
import Derived.TacticsInMore
import Derived.LoopNIn
import Derived.LoopIn
import Derived.BigRegion
import Derived.Laws.CopyRow
import Derived.Deep.MidRow
import Derived.Shelf.Spec.SlicesInsert
import Derived.DeepKeys
import Derived.Laws.NewBlocks
import Derived.Laws.StructEq
import Derived.Deep.WholeRow
import Derived.Test.YtkicidopjihjmaaGreatProg
import Derived.StillTail
import Derived.Deep.Quiet
import Derived.Defers
import Derived.Recover
set_option maxHeartbeats 16000000
set_option linter.unusedSimpArgs false
set_option linter.unusedVariables false
namespace Go.Proofs.YtkicidopjihjmaaGreat
open Go Go.RowKit Go.WideShapes Go.ChangeShapes
theorem Hi {p : Prop} (h : p) : Hid p := h
def Rd (w : World) (B sz : Nat) (A : Option Addr) (n : Nat) (xs : List Value) : Prop :=
 xs.length = n * sz ∧ (0 < n → ∃ b off, A = some ⟨b, off, none⟩ ∧ b < B ∧ ∀ j u, xs[j]? = some u → w.cell? ⟨b, off + j, none⟩ = some u)
section
variable {w w' : World} {B B' sz n : Nat} {A : Option Addr} {xs : List Value}
theorem Rd.none_ : Rd w B sz A 0 [] := ⟨by simp, fun h => absurd h (by omega)⟩
theorem Rd.nil (h : Rd w B sz A 0 xs) : xs = [] := List.eq_nil_of_length_eq_zero (by simpa using h.1)
theorem Rd.keep (h : Rd w B sz A n xs) (hk : ∀ p : Addr, p.block < B → w'.cell? p = w.cell? p) : Rd w' B sz A n xs :=
 ⟨h.1, fun hn => by
  obtain ⟨b, off, e, hb, hc⟩ := h.2 hn
  exact ⟨b, off, e, hb, fun j u hu => (hk _ hb).trans (hc j u hu)⟩⟩
theorem Rd.more (h : Rd w B sz A n xs) (hB : B ≤ B') : Rd w B' sz A n xs :=
 ⟨h.1, fun hn => by
  obtain ⟨b, off, e, hb, hc⟩ := h.2 hn
  exact ⟨b, off, e, by omega, hc⟩⟩
theorem Rd.below (h : Rd w B sz A n xs) (hb : Below B w w') : Rd w' B sz A n xs := h.keep fun _ hp => hb.cell hp
theorem Rd.drew (h : Rd w B sz A n xs) : Rd w.drew B sz A n xs := h
theorem Rd.drewN (h : Rd w B sz A n xs) (k : Nat) : Rd (w.drewN k) B sz A n xs := h
theorem Rd.alloc (h : Rd w B sz A n xs) (hB : B ≤ w.heap.size) (o : Obj) : Rd (w.alloc o) B sz A n xs := h.keep fun p hp => World.cell?_alloc_lt w o p (by omega)
theorem Rd.setCell (h : Rd w B sz A n xs) {p : Addr} (hB : B ≤ p.block) (u : Value) : Rd (w.setCell p u) B sz A n xs :=
 h.keep fun q hq => World.cell?_setCell_other w p q u (fun e => by subst e; omega)
theorem Rd.of_own {base : Nat} {e : TypeId} {c : Nat} (h : w.ownsRow base e sz (.slice A n c) n xs) : Rd w w.heap.size sz A n xs := by
 refine ⟨h.1, fun hn => ?_⟩
 obtain ⟨g, cap, hv, _, hlt⟩ := h.form hn
 have hA : A = some ⟨g, 0, none⟩ := by injection hv
 subst hA
 refine ⟨g, 0, rfl, hlt, fun j u hu => ?_⟩
 have := h.cells (g := g) rfl j u hu
 unfold Addr.add at this
 by_cases hj : j = 0
 · subst hj; simpa using this
 · simpa [hj] using this
theorem Rd.at_ {k : Nat} (h : Rd w B sz A n xs) (hk : k < n) : ∃ b off, A = some ⟨b, off, none⟩ ∧ b < B ∧ ∀ i u, i < sz → xs[k * sz + i]? = some u → w.cell? ⟨b, off + k * sz + i, none⟩ = some u := by
 obtain ⟨b, off, e, hb, hc⟩ := h.2 (by omega)
 exact ⟨b, off, e, hb, fun i u _ hu => by rw [Nat.add_assoc]; exact hc _ u hu⟩
end
theorem ret_bool {a b : Bool} (h : a = b) : Ending.returned (.bool a) = .returned (.bool b) := by rw [h]
theorem ret_int {k : IntKind} {a b : Int} (h : a = b) : Ending.returned (.int k a) = .returned (.int k b) := by rw [h]
theorem kept {w w1 : World} {g o : Nat} {v : Value} (hb : Below w.heap.size w w1) (h : w.cell? ⟨g, o, none⟩ = some v) : w1.cell? ⟨g, o, none⟩ = some v := by
 have hlt : g < w.heap.size := by
  rcases Nat.lt_or_ge g w.heap.size with hlt | hge
  · exact hlt
  · unfold World.cell? at h; simp only [] at h; rw [Array.getElem?_eq_none hge] at h; cases h
 exact (hb.cell (p := ⟨g, o, none⟩) hlt).trans h
def U64 (x : Int) : Prop := 0 ≤ x ∧ x < 18446744073709551616
theorem below_drewN {B : Nat} {a w : World} (h : Below B a w) (n : Nat) : Below B a (w.drewN n) := ⟨h.os, h.tape, h.output, h.size, h.block⟩
def via (w z : World) : World := { z with os := w.os, tape := w.tape, output := w.output, heap := w.heap ++ z.heap.extract w.heap.size z.heap.size }
theorem via_below (w z : World) : Below w.heap.size w (via w z) :=
 ⟨rfl, rfl, rfl, by simp [via], fun k hk => by simp [via, Array.getElem?_append, hk]⟩
theorem via_eq {w z : World} (h : Below w.heap.size w z) : via w z = z := by
 have hh : w.heap ++ z.heap.extract w.heap.size z.heap.size = z.heap := by
  apply Array.ext_getElem?
  intro i
  by_cases hi : i < w.heap.size
  · rw [Array.getElem?_append_left hi, h.block i hi]
  ·
   rw [Array.getElem?_append_right (by omega), Array.getElem?_extract]
   by_cases hz : i < z.heap.size
   · rw [if_pos (by omega)]; congr 1; omega
   · rw [if_neg (by omega)]; rw [Array.getElem?_eq_none (by omega)]
 unfold via
 rw [hh, ← h.os, ← h.tape, ← h.output]
theorem via_cell (w z : World) (b o : Nat) (h : b < w.heap.size) : (via w z).cell? ⟨b, o, none⟩ = w.cell? ⟨b, o, none⟩ := (via_below w z).cell (p := ⟨b, o, none⟩) h
theorem via_frozen (w z : World) (b o : Nat) (h : b < w.heap.size) : (via w z).frozen? ⟨b, o, none⟩ = w.frozen? ⟨b, o, none⟩ := (via_below w z).frozen (p := ⟨b, o, none⟩) h
theorem via_of {P : Program} {f : FuncId} {args : Array Value} {w z : World} {v : Value}
  (h : Calls P f args (via w z) fun e w' => e = .returned v ∧ Below (via w z).heap.size (via w z) w') : Calls P f args (via w z) fun e w'' => e = .returned v ∧ ∃ m, w'' = via w m :=
 h.mono fun _ w' ⟨he, hb⟩ => ⟨he, w', (via_eq ((via_below w z).trans (hb.mono (via_below w z).size))).symm⟩
theorem via_of_same {P : Program} {f : FuncId} {args : Array Value} {w z : World} {v : Value}
  (h : Calls P f args (via w z) fun e w' => e = .returned v ∧ via w z = w') : Calls P f args (via w z) fun e w'' => e = .returned v ∧ ∃ m, w'' = via w m :=
 h.mono fun _ _ ⟨he, hb⟩ => ⟨he, z, hb.symm⟩
theorem post_of_below {H : Type} {enc : TypeId × Value → H} {P : Program} {f : Func} {s : ChangeSpec} {apart fresh handsOn again : Bool} {W W' : World} {args : Array Value} {v : Value} {ds gs : List (DataW H)} {before pa pv : List MemPlace}
  (hW : DataW.Whole enc P f.params.toList s.vars apart W args.toList ds gs before)
  (hres : ∀ (b : Nat) (sp : Nat → Bool) (hd : Bool), DataW.TrodAll enc P W' b sp hd f.resultTypes.toList (v.resultList f.resultTypes.size) (s.fn H (ds ++ gs)).results [])
  (hargs : ∀ sp : Nat → Bool, (∀ p ∈ before, sp p.block = true) → DataW.TrodAll enc P W' 0 sp true f.params.toList args.toList (s.fn H (ds ++ gs)).args pa)
  (hvars : ∀ sp : Nat → Bool, (∀ p ∈ before, sp p.block = true) → DataW.TrodVars enc P W' sp s.vars (s.fn H (ds ++ gs)).vars pv)
  (hps : before = pa ++ pv) (hb : Below W.heap.size W W')
  (hok : ∀ (j : Nat) (t : TypeId) (r : Value), f.resultTypes[j]? = some t → (v.resultList f.resultTypes.size)[j]? = some r → Value.okWide P W' .any 0 t r) :
  s.post enc P f apart fresh handsOn again W args v W' := by
 have hlt : ∀ p ∈ before, p.block < W.heap.size := fun p hp => hW.lt p hp
 have hold : ∀ p ∈ before, (fun b => decide (b < W.heap.size)) p.block = true := fun p hp => by simpa using hlt p hp
 refine ⟨ds, gs, before, [], pa, pv, hW, hres _ _ _, hargs _ hold, hvars _ hold, World.keptBut_mono (fun p hp => ⟨hp, ?_⟩) (hb.frame (· ∈ before)), fun _ => ?_⟩
 ·
  rw [hps, List.mem_append] at hp
  exact Or.inr hp
 ·
  obtain ⟨_, _, _, _, _, hz, hn⟩ := hW
  refine ⟨hok, _, _, ([] ++ pa) ++ pv, ⟨[] ++ pa, pv, trodAll_append (hargs _ (fun _ _ => rfl)) (hres _ _ _), hvars _ (fun _ _ => rfl), rfl, ?_, ?_⟩, ?_⟩
  ·
   intro b off hp
   have hin : MemPlace.cell b off ∈ before := by rw [hps]; simpa using hp
   rw [hb.frozen (hlt _ hin)]
   exact hz b off hin
  ·
   intro ha
   have := hn ha
   rw [hps] at this
   simpa using this
  ·
   intro p hp _
   rw [hps]
   simpa using hp
end Go.Proofs.YtkicidopjihjmaaGreat
namespace Go.Proofs.YtkicidopjihjmaaGreat
open Go Go.RowKit Go.WideShapes Go.ChangeShapes Go.ChangeAt
theorem own_knob : ownKnob Tryz.prog.godebug = none := by kernel_rfl
theorem laid_out : laidOutB Tryz.prog = true := by kernel_rfl
theorem u64_bounds {a : Int} (h : (Lit.int .u64 a).wf = true) : U64 a := by
 have h : 0 ≤ a ∧ a ≤ 18446744073709551615 := by simpa [Lit.wf, IntKind.min, IntKind.max, IntKind.signed, IntKind.bits] using h
 exact ⟨h.1, by omega⟩
theorem TrodAll_stays {H : Type} {enc : TypeId × Value → H} {P : Program} (hl : laidOutB P = true) {W W' : World} {sp : Nat → Bool} :
  ∀ {ts : List TypeId} {vs : List Value} {ds : List (DataW H)} {ps : List MemPlace}, (∀ t ∈ ts, P.readableRec t = true ∧ t < P.types.size) → DataW.TrodAll enc P W 0 (fun _ => true) true ts vs ds ps →
   (∀ x ∈ ps, W.sameAt W' x) → (∀ x ∈ ps, sp x.block = true) → DataW.TrodAll enc P W' 0 sp true ts vs ds ps
 | [], [], [], ps, _, h, _, _ => h
 | t :: ts, v :: vs, d :: ds, ps, hr, h, hs, hp => by
  obtain ⟨p, q, h1, h2, rfl⟩ := h
  refine ⟨p, q, ?_, ?_, rfl⟩
  · exact WideElems.Trod_stays hl (hr t (by simp)).1 (hr t (by simp)).2 h1 (fun x hx => hs x (by simp [hx])) (fun x hx => hp x (by simp [hx]))
  · exact TrodAll_stays hl (fun t ht => hr t (by simp [ht])) h2 (fun x hx => hs x (by simp [hx])) (fun x hx => hp x (by simp [hx]))
 | [], [], _ :: _, _, _, h, _, _ => h.elim
 | [], _ :: _, _, _, _, h, _, _ => h.elim
 | _ :: _, [], _, _, _, h, _, _ => h.elim
 | _ :: _, _ :: _, [], _, _, h, _, _ => h.elim
theorem law_done {H : Type} {enc : TypeId × Value → H} {P : Program} (hl : laidOutB P = true) {f : Func} {s : ChangeSpec} {apart fresh handsOn again : Bool} {W W' : World} {args : Array Value} {ds gs : List (DataW H)} {before : List MemPlace}
  (hW : DataW.Whole enc P f.params.toList s.vars apart W args.toList ds gs before) (hv : s.vars = []) (hspec : ∀ ds' : List (DataW H), ds'.length = f.params.size → s.fn H ds' = { results := [.lit (.bool true)], args := ds' })
  (hlen : ds.length = f.params.size) (hread : ∀ t ∈ f.params.toList, P.readableRec t = true ∧ t < P.types.size) (hb : Below W.heap.size W W')
  (hres : ∀ (b : Nat) (sp : Nat → Bool) (hd : Bool), DataW.TrodAll enc P W' b sp hd f.resultTypes.toList ((Value.bool true).resultList f.resultTypes.size) [.lit (.bool true)] [])
  (hok : ∀ (j : Nat) (t : TypeId) (r : Value), f.resultTypes[j]? = some t → ((Value.bool true).resultList f.resultTypes.size)[j]? = some r → Value.okWide P W' .any 0 t r) :
  s.post enc P f apart fresh handsOn again W args (.bool true) W' := by
 have hW0 := hW
 obtain ⟨p, q, hA, hV, rfl, _, _⟩ := hW
 rw [hv] at hV
 have hg : gs = [] ∧ q = [] := by
  cases gs with
  | nil => exact ⟨rfl, hV⟩
  | cons g gs => exact hV.elim
 obtain ⟨rfl, rfl⟩ := hg
 simp only [List.append_nil] at hW0 ⊢
 have hs := hspec ds hlen
 have hlt : ∀ x ∈ p, x.block < W.heap.size := fun x hx => hW0.lt x hx
 refine post_of_below (pa := p) (pv := []) hW0 ?_ ?_ ?_ (by simp) hb hok
 ·
  intro b sp hd
  simp only [List.append_nil, hs]
  exact hres b sp hd
 ·
  intro sp hsp
  simp only [List.append_nil, hs]
  exact TrodAll_stays hl hread hA (fun x hx => hb.same (hlt x hx)) hsp
 ·
  intro sp hsp
  rw [hv]
  simp only [List.append_nil, hs]
  rfl
end Go.Proofs.YtkicidopjihjmaaGreat
namespace Go.Proofs.YtkicidopjihjmaaGreat
open Go Go.RowKit
theorem Na {α : Type} {l : List α} {i : Nat} (h : i < l.toArray.size) : l.toArray[i] = l[i]'(by simpa using h) := rfl
theorem Nb {α : Type} {a : α} {l : List α} {i : Nat} (h : i + 1 < (a :: l).length) : (a :: l)[i + 1] = l[i]'(Nat.lt_of_succ_lt_succ h) := rfl
theorem Nc {α : Type} {a : α} {l : List α} {h : 0 < (a :: l).length} : (a :: l)[0] = a := rfl
theorem Nd {α : Type} (l : List α) (i : Nat) (a : α) : l.toArray.setIfInBounds i a = (l.set i a).toArray := List.setIfInBounds_toArray ..
theorem Nx {α : Type} {a b : α} {l : List α} : (a :: l).set 0 b = b :: l := rfl
theorem Nf {α : Type} {a b : α} {l : List α} {i : Nat} : (a :: l).set (i + 1) b = a :: l.set i b := rfl
theorem Rd.new (w : World) (cs : Array Value) (e : TypeId) (sz n : Nat) (h : cs.size = n * sz) : Rd (w.alloc (.cells cs e)) (w.heap.size + 1) sz (some ⟨w.heap.size, 0, none⟩) n cs.toList := by
 refine ⟨by simpa using h, fun _ => ⟨w.heap.size, 0, rfl, by omega, fun j u hu => ?_⟩⟩
 rw [World.cell?_alloc_new]
 simpa using hu
section
variable {P : Program} (w : World)
theorem rd_cells {w : World} {B sz m : Nat} {b off : Nat} {news : List Value} (hr : Rd w B sz (some ⟨b, off, none⟩) m news) (hm : 0 < m) : ∀ j u, news[j]? = some u → w.cell? ((⟨b, off, none⟩ : Addr).add j) = some u := by
 obtain ⟨b', off', h, _, hc⟩ := hr.2 hm
 injection h with h
 injection h with h1 h2
 subst h1; subst h2
 intro j u hu
 have := hc j u hu
 unfold Addr.add
 by_cases hj : j = 0
 · subst hj; simpa using this
 · simpa [hj] using this
theorem run_append_of_nil (base : Nat) (t ty e : TypeId) (i : TypeInfo) (size : Nat) (ht : P.underlying t = some (.slice e)) (hi : P.info? e = some i)
  (v : Value) (n : Nat) (xs : List Value) (hown : w.ownsRow base e size v n xs) (c : Nat) : (Builtin.append_ #[t, t] ty #[v, .slice none 0 c]).run P w = .ok v w := by
 rcases hown.2 with ⟨rfl, rfl⟩ | ⟨g, cap, cur, rfl, _, _, hnc, _⟩
 · simp [Builtin.append_, run_underlying ht, sizeOf, typeInfo, hi, Builtin.lenOf, Builtin.firstCells]
 · simp [Builtin.append_, run_underlying ht, sizeOf, typeInfo, hi, Builtin.lenOf, Builtin.firstCells, hnc, storeCells]
theorem run_append_of_none (base : Nat) (t ty e : TypeId) (i : TypeInfo) (size : Nat) (ht : P.underlying t = some (.slice e)) (hi : P.info? e = some i)
  (v : Value) (n : Nat) (xs : List Value) (hown : w.ownsRow base e size v n xs) (a : Addr) (c : Nat) : (Builtin.append_ #[t, t] ty #[v, .slice (some a) 0 c]).run P w = .ok v w := by
 rcases hown.2 with ⟨rfl, rfl⟩ | ⟨g, cap, cur, rfl, _, _, hnc, _⟩
 · simp [Builtin.append_, run_underlying ht, sizeOf, typeInfo, hi, Builtin.lenOf, Builtin.firstCells, loadCells, loadCellsFrom]
 · simp [Builtin.append_, run_underlying ht, sizeOf, typeInfo, hi, Builtin.lenOf, Builtin.firstCells, hnc, storeCells, loadCells, loadCellsFrom]
theorem run_append_any (base : Nat) (t ty e : TypeId) (i : TypeInfo) (z : Value) (size bytes : Nat) (ht : P.underlying t = some (.slice e)) (hi : P.info? e = some i) (hz : i.zero = some z)
  (hsize : i.size = size) (hby : i.bytes = bytes) (hzs : z.cells.size = size) (hsz : 0 < size)
  (v : Value) (n : Nat) (xs : List Value) (hown : w.ownsRow base e size v n xs)
  (B : Nat) (A : Option Addr) (m c : Nat) (news : List Value) (hr : Rd w B size A m news) (h1 : ∀ u ∈ news, u.oneCell' = true)
  (h63 : n + m ≤ maxLen) (hbytes : (n + m) * bytes ≤ 140737488355328) (hbase : base ≤ w.heap.size) :
  ∃ v' w', (Builtin.append_ #[t, t] ty #[v, .slice A m c]).run P w = .ok v' w' ∧ w'.ownsRow base e size v' (n + m) (xs ++ news) ∧ w.grownBy w' v.ownBlock ∧
   (v'.ownBlock = v.ownBlock ∨ v'.ownBlock = some w.heap.size) := by
 rcases Nat.eq_zero_or_pos m with h0 | h0
 ·
  subst h0
  have hn : news = [] := hr.nil
  subst hn
  cases A with
  | none => exact ⟨v, w, run_append_of_nil w base t ty e i size ht hi v n xs hown c, by simpa using hown, World.grownBy.refl w _, .inl rfl⟩
  | some a => exact ⟨v, w, run_append_of_none w base t ty e i size ht hi v n xs hown a c, by simpa using hown, World.grownBy.refl w _, .inl rfl⟩
 ·
  obtain ⟨b, off, hA, _, _⟩ := hr.2 h0
  subst hA
  obtain ⟨v', w', hrun, h2, h3, _, h5⟩ := run_append_own_at (P := P) w base t ty e i z size bytes ht hi hz hsize hby hzs hsz v n xs hown ⟨b, off, none⟩ m c news hr.1 (rd_cells hr h0) h1 h63 hbytes hbase
  exact ⟨v', w', hrun, h2, h3, h5⟩
end
structure ElemOk (P : Program) (t e : TypeId) (size bytes : Nat) (z : Value) : Prop where
 ht : P.underlying t = some (.slice e)
 info : (P.info? e).map (fun i => (i.zero, i.size, i.bytes)) = some (some z, size, bytes)
 hzs : z.cells.size = size
 hsz : 0 < size
 hby : 0 < bytes
 h1 : ∀ u ∈ z.cells.toList, u.oneCell' = true
theorem ElemOk.room {P : Program} {t e : TypeId} {size bytes : Nat} {z : Value} (E : ElemOk P t e size bytes z) {k : Nat} (h : k * bytes ≤ 140737488355328) : k ≤ maxLen := by
 have h1 : k * 1 ≤ k * bytes := Nat.mul_le_mul_left _ E.hby
 simp only [maxLen]
 omega
theorem below_of_grown {w w' : World} {base : Nat} {e : TypeId} {size n : Nat} {v : Value} {xs : List Value} (hown : w.ownsRow base e size v n xs) (hg : w.grownBy w' v.ownBlock) (hbase : base ≤ w.heap.size) : Below base w w' :=
 (Below.refl base w).grown hg hbase fun k hk => (hown.lt k hk).1
section
variable {P : Program} {t e : TypeId} {size bytes : Nat} {z : Value} {ops : Array Oper} {rest : List Oper} {o : Oper} {a : Act} {Q : Exit → Act → World → Prop} {w : World}
theorem wp_app (E : ElemOk P t e size bytes z) {K : Act → World → Prop} (s x : Operand) (ho : o.op = .call { callee := .builtin .append, args := #[s, x], argTypes := #[t, t] })
  {base n : Nat} {xs : List Value} {v : Value} (hs : a.eval s = v) (hown : w.ownsRow base e size v n xs)
  {B : Nat} {A : Option Addr} {m c : Nat} {news : List Value} (hx : a.eval x = .slice A m c) (hr : Rd w B size A m news) (h1 : ∀ u ∈ news, u.oneCell' = true)
  (hb : (n + m) * bytes ≤ 140737488355328) (hbase : base ≤ w.heap.size)
  (h : ∀ v' w', w'.ownsRow base e size v' (n + m) (xs ++ news) → Below base w w' → w.grownBy w' v.ownBlock → (v'.ownBlock = v.ownBlock ∨ v'.ownBlock = some w.heap.size) → K (a.put o.dst v') w') : o.wp P a w K Q := by
 obtain ⟨i, hi, hz, hsize, hby⟩ := info_parts E.info
 obtain ⟨v', w', hrun, h2, h3, h4⟩ := run_append_any (P := P) w base t o.type e i z size bytes E.ht hi hz hsize hby E.hzs E.hsz v n xs hown B A m c news hr h1 (E.room hb) hb hbase
 unfold Oper.wp execOp
 simp only [ho, resolve, invoke, builtin, Sem.run_bind, Sem.run_pure, Result.andThen_ok, List.map_toArray, List.map_cons, List.map_nil, hs, hx, hrun]
 exact h v' w' h2 (below_of_grown hown h3 hbase) h3 h4
theorem wpList_app (E : ElemOk P t e size bytes z) (hgd : o.guard = none) (s x : Operand) (ho : o.op = .call { callee := .builtin .append, args := #[s, x], argTypes := #[t, t] })
  {base n : Nat} {xs : List Value} {v : Value} (hs : a.eval s = v) (hown : w.ownsRow base e size v n xs)
  {B : Nat} {A : Option Addr} {m c : Nat} {news : List Value} (hx : a.eval x = .slice A m c) (hr : Rd w B size A m news) (h1 : ∀ u ∈ news, u.oneCell' = true)
  (hb : (n + m) * bytes ≤ 140737488355328) (hbase : base ≤ w.heap.size)
  (h : ∀ v' w', w'.ownsRow base e size v' (n + m) (xs ++ news) → Below base w w' → w.grownBy w' v.ownBlock → (v'.ownBlock = v.ownBlock ∨ v'.ownBlock = some w.heap.size) → wpList P ops Q rest (a.put o.dst v') w') : wpList P ops Q (o :: rest) a w :=
 wpList_plain hgd fun _ hK => wp_app E s x ho hs hown hx hr h1 hb hbase fun v' w' h2 h3 h4 h5 => hK _ _ (h v' w' h2 h3 h4 h5)
end
def Cs {α : Type} (enc : α → List Value) (xs : List α) : List Value := xs.flatMap enc
section
variable {α : Type} {enc : α → List Value} {sz : Nat}
theorem Cs_append (xs ys : List α) : Cs enc (xs ++ ys) = Cs enc xs ++ Cs enc ys := by simp [Cs]
theorem Cs_one (x : α) : Cs enc [x] = enc x := by simp [Cs]
theorem Cs_length (hl : ∀ x, (enc x).length = sz) (xs : List α) : (Cs enc xs).length = xs.length * sz := by
 induction xs with
 | nil => simp [Cs]
 | cons x xs ih =>
  have : Cs enc (x :: xs) = enc x ++ Cs enc xs := by simp [Cs]
  rw [this, List.length_append, ih, hl, List.length_cons, Nat.add_mul]; omega
theorem Cs_at (hl : ∀ x, (enc x).length = sz) (xs : List α) (k i : Nat) (hk : k < xs.length) (hi : i < sz) : (Cs enc xs)[k * sz + i]? = (enc xs[k])[i]? := by
 induction xs generalizing k with
 | nil => simp at hk
 | cons x xs ih =>
  have hc : Cs enc (x :: xs) = enc x ++ Cs enc xs := by simp [Cs]
  rw [hc]
  cases k with
  | zero => rw [List.getElem?_append_left (by rw [hl]; omega)]; simp
  | succ k =>
   have h2 : (k + 1) * sz + i = sz + (k * sz + i) := by rw [Nat.add_mul]; omega
   rw [h2, List.getElem?_append_right (by rw [hl]; omega), hl, Nat.add_sub_cancel_left, ih k (by simpa using hk)]
   simp
theorem Cs_one_cell (h1 : ∀ x, ∀ u ∈ enc x, u.oneCell' = true) (xs : List α) : ∀ u ∈ Cs enc xs, u.oneCell' = true := by
 intro u hu
 simp only [Cs, List.mem_flatMap] at hu
 obtain ⟨x, _, hx⟩ := hu
 exact h1 x u hx
theorem Cs_take (hl : ∀ x, (enc x).length = sz) (xs : List α) (k : Nat) : Cs enc (xs.take k) = (Cs enc xs).take (k * sz) := by
 by_cases hk : k ≤ xs.length
 ·
  have h := Cs_append (enc := enc) (xs.take k) (xs.drop k)
  rw [List.take_append_drop] at h
  have hlen := Cs_length hl (xs.take k)
  rw [List.length_take, Nat.min_eq_left hk] at hlen
  rw [h, ← hlen, List.take_left]
 ·
  rw [List.take_of_length_le (by omega), List.take_of_length_le]
  rw [Cs_length hl]; exact Nat.mul_le_mul_right _ (by omega)
theorem Rd.elem {w : World} {B : Nat} {A : Option Addr} {xs : List α} (h : Rd w B sz A xs.length (Cs enc xs)) (hl : ∀ x, (enc x).length = sz) {k : Nat} (hk : k < xs.length) :
  ∃ b off, A = some ⟨b, off, none⟩ ∧ b < B ∧ ∀ i u, i < sz → (enc xs[k])[i]? = some u → w.cell? ⟨b, off + k * sz + i, none⟩ = some u := by
 obtain ⟨b, off, e, hb, hc⟩ := h.2 (by omega)
 exact ⟨b, off, e, hb, fun i u hi hu => by rw [Nat.add_assoc]; exact hc _ u (by rw [Cs_at hl xs k i hk hi]; exact hu)⟩
theorem Rd.take {w : World} {B : Nat} {A : Option Addr} {n k : Nat} {cs : List Value} (h : Rd w B sz A n cs) (hk : k ≤ n) : Rd w B sz A k (cs.take (k * sz)) := by
 refine ⟨by rw [List.length_take, h.1]; exact Nat.min_eq_left (Nat.mul_le_mul_right _ hk), fun h0 => ?_⟩
 obtain ⟨b, off, e, hb, hc⟩ := h.2 (by omega)
 refine ⟨b, off, e, hb, fun j u hu => hc j u ?_⟩
 rw [List.getElem?_take] at hu
 split at hu
 · exact hu
 · cases hu
end
theorem rd_none {w : World} {B sz n : Nat} {xs : List Value} (h : Rd w B sz none n xs) : n = 0 := by
 rcases Nat.eq_zero_or_pos n with h0 | h0
 · exact h0
 ·
  obtain ⟨b, off, e, _⟩ := h.2 h0
  cases e
theorem ownsRow_base {w : World} {base base' : Nat} {e : TypeId} {size n : Nat} {v : Value} {xs : List Value} (h : w.ownsRow base e size v n xs) (hb : base' ≤ base) : w.ownsRow base' e size v n xs := by
 obtain ⟨hl, h2⟩ := h
 refine ⟨hl, ?_⟩
 rcases h2 with h | ⟨g, cap, cur, hv, hg, r⟩
 · exact .inl h
 · exact .inr ⟨g, cap, cur, hv, by omega, r⟩
theorem own_keepB {w w' : World} {base : Nat} {e : TypeId} {size n : Nat} {v : Value} {xs : List Value} (h : w.ownsRow base e size v n xs) (hb : Below w.heap.size w w') : w'.ownsRow base e size v n xs := by
 obtain ⟨hl, h2⟩ := h
 refine ⟨hl, ?_⟩
 rcases h2 with h | ⟨g, cap, cur, hv, hg, hh, r⟩
 · exact .inl h
 ·
  have hlt : g < w.heap.size := by
   rcases Nat.lt_or_ge g w.heap.size with hlt | hge
   · exact hlt
   · rw [Array.getElem?_eq_none hge] at hh; cases hh
  exact .inr ⟨g, cap, cur, hv, hg, (hb.block g hlt).trans hh, r⟩
end Go.Proofs.YtkicidopjihjmaaGreat
namespace Go.Proofs.YtkicidopjihjmaaGreat
open Go Go.RowKit Go.WideShapes Go.ChangeShapes Go.ChangeAt Go.Deep
theorem cell_lt {w : World} {a : Addr} {v : Value} (h : w.cell? a = some v) : a.block < w.heap.size := by
 rcases Nat.lt_or_ge a.block w.heap.size with hlt | hge
 · exact hlt
 · unfold World.cell? at h; rw [Array.getElem?_eq_none hge] at h; cases h
theorem cell_spot {w : World} {a : Addr} {v : Value} (h : w.cell? a = some v) : a.spot = none := by
 unfold World.cell? at h
 split at h
 ·
  split at h
  · cases h
  · rename_i hs; simpa using hs
 · cases h
section
variable {H : Type} {enc : TypeId × Value → H} {P : Program} {w : World} {base : Nat} {spare : Nat → Bool} {held : Bool}
theorem open_rd {α : Type} {en : α → List Value} {wf : α → Prop} {t e : TypeId} {fuel sz : Nat} {cs : List Value} {x : DataW H × List MemPlace} (ht : P.underlying t = some (.slice e)) (hC : P.cellsOf e = sz) (hsz : 0 < sz)
  (hdec : ∀ (n : Nat) (cs' : List Value) (y : DataW H × List MemPlace), cs'.length = sz → DataW.trod enc P w base spare held n e cs' = some y → ∃ z : α, cs' = en z ∧ wf z)
  (h : DataW.trod enc P w base spare held fuel t cs = some x) :
  ∃ (A : Option Addr) (n c : Nat) (xs : List α), cs = [.slice A n c] ∧ n ≤ c ∧ c ≤ maxLen ∧ xs.length = n ∧ Rd w w.heap.size sz A n (Cs en xs) ∧ ∀ z ∈ xs, wf z := by
 rcases open_slice ht h with ⟨rfl, _⟩ | ⟨a, len, cap, m, n, D, Pl, rfl, hb, hl, hm, hmm, _, hi⟩
 · exact ⟨none, 0, 0, [], rfl, Nat.le_refl _, by simp [maxLen], rfl, Rd.none_, by simp⟩
 ·
  rw [hC] at hi
  have hlm : len ≤ m := by rw [hmm]; split <;> omega
  have each : ∀ i, i < len → ∃ z : α, wf z ∧ (en z).length = sz ∧ ∀ j, j < sz → w.cell? ((a.add (i * sz)).add j) = (en z)[j]? := by
   intro i hil
   obtain ⟨cs', hc, ht'⟩ := hi i (by omega)
   obtain ⟨_, hcl, hat⟩ := World.cells?_some hc
   obtain ⟨z, rfl, hz⟩ := hdec n cs' _ hcl ht'
   exact ⟨z, hz, hcl, hat⟩
  have build : ∀ k, k ≤ len → ∃ xs : List α, xs.length = k ∧ (∀ z ∈ xs, wf z ∧ (en z).length = sz) ∧ ∀ i z, xs[i]? = some z → ∀ j, j < sz → w.cell? ((a.add (i * sz)).add j) = (en z)[j]? := by
   intro k
   induction k with
   | zero => exact fun _ => ⟨[], rfl, by simp, by simp⟩
   | succ k ih =>
    intro hk
    obtain ⟨xs, hxl, hwf, hxc⟩ := ih (by omega)
    obtain ⟨z, hz, hzl, hzc⟩ := each k (by omega)
    refine ⟨xs ++ [z], by simp [hxl], ?_, ?_⟩
    ·
     intro y hy
     rw [List.mem_append] at hy
     rcases hy with hy | hy
     · exact hwf y hy
     · simp at hy; subst hy; exact ⟨hz, hzl⟩
    ·
     intro i y hy
     rcases Nat.lt_or_ge i xs.length with hlt | hge
     · rw [List.getElem?_append_left hlt] at hy; exact hxc i y hy
     ·
      rw [List.getElem?_append_right hge] at hy
      have hi0 : i - xs.length = 0 := by
       rcases Nat.eq_zero_or_pos (i - xs.length) with h0 | h0
       · exact h0
       · rw [List.getElem?_eq_none (by simp; omega)] at hy; cases hy
      rw [hi0] at hy
      simp at hy
      subst hy
      rw [show i = k by omega]
      exact hzc
  obtain ⟨xs, hxl, hwf, hxc⟩ := build len (Nat.le_refl _)
  refine ⟨some a, len, cap, xs, rfl, hl, hm, hxl, ⟨?_, fun hn => ?_⟩, fun z hz => (hwf z hz).1⟩
  ·
   have : ∀ l : List α, (∀ z ∈ l, (en z).length = sz) → (Cs en l).length = l.length * sz := by
    intro l
    induction l with
    | nil => simp [Cs]
    | cons y l ih =>
     intro hy
     have hc : Cs en (y :: l) = en y ++ Cs en l := by simp [Cs]
     rw [hc, List.length_append, ih (fun z hz => hy z (by simp [hz])), hy y (by simp), List.length_cons, Nat.add_mul]; omega
   rw [this xs (fun z hz => (hwf z hz).2), hxl]
  ·
   have h0 : 0 < xs.length := by omega
   have hx0 := hxc 0 xs[0] (List.getElem?_eq_getElem h0) 0 hsz
   have hl0 := (hwf xs[0] (List.getElem_mem h0)).2
   have hv0 : (en xs[0])[0]? = some ((en xs[0])[0]'(by omega)) := List.getElem?_eq_getElem (by omega)
   rw [hv0] at hx0
   have ha0 : (a.add (0 * sz)).add 0 = a := by simp [Addr.add]
   rw [ha0] at hx0
   have hsp := cell_spot hx0
   have hbl := cell_lt hx0
   obtain ⟨ab, ao, asp⟩ := a
   simp only at hsp hbl
   subst hsp
   refine ⟨ab, ao, rfl, hbl, ?_⟩
   have hadd : ∀ i j : Nat, ((⟨ab, ao, none⟩ : Addr).add i).add j = ⟨ab, ao + (i + j), none⟩ := by
    intro i j
    unfold Addr.add
    by_cases h1 : i = 0 <;> by_cases h2 : j = 0 <;> simp [h1, h2, Nat.add_assoc]
   intro j u hu
   have hjl : j < (Cs en xs).length := (List.getElem?_eq_some_iff.1 hu).1
   -- the place j lies in element j / sz
   have key : ∀ (l : List α) (s : Nat), (∀ z ∈ l, (en z).length = sz) → (∀ i z, l[i]? = some z → ∀ j, j < sz → w.cell? ⟨ab, ao + ((s + i) * sz + j), none⟩ = (en z)[j]?) → ∀ j u, (Cs en l)[j]? = some u → w.cell? ⟨ab, ao + (s * sz + j), none⟩ = some u := by
    intro l
    induction l with
    | nil => intro s _ _ j u hu; simp [Cs] at hu
    | cons y l ih =>
     intro s hy hc j u hu
     have hcs : Cs en (y :: l) = en y ++ Cs en l := by simp [Cs]
     rw [hcs] at hu
     have hyl := hy y (by simp)
     rcases Nat.lt_or_ge j sz with hj | hj
     ·
      rw [List.getElem?_append_left (by omega)] at hu
      have := hc 0 y rfl j hj
      rw [Nat.add_zero] at this
      rw [this]; exact hu
     ·
      rw [List.getElem?_append_right (by omega), hyl] at hu
      have := ih (s + 1) (fun z hz => hy z (by simp [hz])) (fun i z hz j hj => by
       have := hc (i + 1) z (by simpa using hz) j hj
       rw [show s + 1 + i = s + (i + 1) by omega]; exact this) (j - sz) u hu
      rw [show s * sz + j = (s + 1) * sz + (j - sz) by rw [Nat.add_mul]; omega]
      exact this
   have := key xs 0 (fun z hz => (hwf z hz).2) (fun i z hz j hj => by
    rw [Nat.zero_add, ← hadd]; exact hxc i z hz j hj) j u hu
   rw [Nat.zero_mul, Nat.zero_add] at this
   exact this
theorem dec_int {k : IntKind} {e : TypeId} (he : P.underlying e = some (.int k)) {n : Nat} {cs' : List Value} {y : DataW H × List MemPlace} (hl : cs'.length = 1) (h : DataW.trod enc P w base spare held n e cs' = some y) :
  ∃ z : Int, cs' = [.int k z] ∧ (Lit.int k z).wf = true := by
 match cs', hl with
 | [v], _ =>
  obtain ⟨z, hz, _, wz⟩ := DataW.trod_int he h
  simp at hz
  subst hz
  exact ⟨z, rfl, wz⟩
theorem dec_fields {fs : Array Field} {e : TypeId} (hs : P.underlying e = some (.struct fs)) (hone : oneCellFields P fs = true) {n : Nat} {cs' : List Value} {y : DataW H × List MemPlace} (hl : cs'.length = fs.size) (h : DataW.trod enc P w base spare held n e cs' = some y)
  (j : Nat) (f : Field) (hj : fs[j]? = some f) : ∃ (v : Value) (y' : DataW H × List MemPlace) (n' : Nat), cs'[j]? = some v ∧ DataW.trod enc P w base spare held n' f.type [v] = some y' := by
 obtain ⟨ys, n', hn', hy, hlen, hyl, hf⟩ := DataW.trod_struct hs h
 obtain ⟨ho, hk⟩ := hone_of hone j f hj
 have hjl : j < fs.size := (Array.getElem?_eq_some_iff.1 hj).1
 have hv : cs'[j]? = some (cs'[j]'(by omega)) := List.getElem?_eq_getElem (by omega)
 have h1 := hf j f hj
 rw [ho, hk] at h1
 have hone' : (cs'.drop j).take 1 = [cs'[j]'(by omega)] := by
  rw [List.drop_eq_getElem_cons (by omega)]
  rfl
 rw [hone'] at h1
 have hys : ys[j]? = some (ys[j]'(by omega)) := List.getElem?_eq_getElem (by omega)
 exact ⟨_, _, n', hv, h1.trans hys⟩
theorem dec_field_int {fs : Array Field} {e : TypeId} (hs : P.underlying e = some (.struct fs)) (hone : oneCellFields P fs = true) {n : Nat} {cs' : List Value} {y : DataW H × List MemPlace} (hl : cs'.length = fs.size) (h : DataW.trod enc P w base spare held n e cs' = some y)
  (j : Nat) (f : Field) (hj : fs[j]? = some f) {k : IntKind} (hk : P.underlying f.type = some (.int k)) : ∃ z : Int, cs'[j]? = some (.int k z) ∧ (Lit.int k z).wf = true := by
 obtain ⟨v, y', n', hv, ht⟩ := dec_fields hs hone hl h j f hj
 obtain ⟨z, hz, wz⟩ := dec_int hk (cs' := [v]) rfl ht
 simp at hz
 subst hz
 exact ⟨z, hv, wz⟩
end
end Go.Proofs.YtkicidopjihjmaaGreat
namespace Go.Proofs.YtkicidopjihjmaaGreat
open Go Go.RowKit
def RowIs (w : World) (g : Nat) (t : TypeId) (cs : Array Value) : Prop := w.heap[g]? = some (.cells cs t (0, 0))
structure CellsLie (A B : World) : Prop where
 size : A.heap.size ≤ B.heap.size
 same : ∀ (j : Nat) (o : Obj), A.heap[j]? = some o → o.isCells = true → B.heap[j]? = some o
theorem CellsLie.of_below {A B : World} (h : Below A.heap.size A B) : CellsLie A B :=
 ⟨h.size, fun j o hj _ => (h.block j (Array.getElem?_eq_some_iff.1 hj).1).trans hj⟩
theorem CellsLie.putObj {A : World} {l : Nat} {o : Obj} (o' : Obj) (h : A.heap[l]? = some o) (hc : o.isCells = false) : CellsLie A (A.putObj l o') :=
 ⟨by simp, fun j o'' hj ho => by
  by_cases e : j = l
  · subst e; rw [h] at hj; cases hj; rw [hc] at ho; cases ho
  · exact (World.putObj_heap_other e).trans hj⟩
def Stays {β : Type} (I : β → World → Prop) : Prop := ∀ s A B, I s A → CellsLie A B → I s B
theorem KeepsOthers.of_below {A B : World} (h : Below A.heap.size A B) : KeepsOthers A B :=
 ⟨h.size, fun j o hj _ => (h.block j (Array.getElem?_eq_some_iff.1 hj).1).trans hj⟩
theorem below_putObj {n₀ : Nat} {W : World} {l : Nat} {o : Obj} (o' : Obj) (hl : n₀ ≤ l) : Below n₀ W (W.putObj l o') :=
 ⟨rfl, rfl, rfl, by simp, fun j hj => World.putObj_heap_other (by omega)⟩
def Seq3 {α : Type} (P : Program) (gf : Nat) (lb : Array Value) (encs : α → Array Value) (K : Nat → Prop) (S Sp Sn : List α → Prop) (ch : List PanicEntry) (N : Nat) (w : World) : Prop :=
 ∀ (l : Nat) (J Jx : List α → World → Prop) (W : World), Below w.heap.size w W → (∀ s A B, J s A → Below A.heap.size A B → J s B) → (∀ s A B, Jx s A → Below A.heap.size A B → Jx s B) →
  (∀ pre x W1, J pre W1 → pre.length < N → YieldAt Fence.wide 3 P l (encs x) W1 fun e W' =>
   (e = .returned (.bool true) ∧ J (pre ++ [x]) W' ∧ ∀ j, K j → W'.heap[j]? = W1.heap[j]?) ∨ (e = .returned (.bool false) ∧ Jx (pre ++ [x]) W')) →
  J [] W →
  Calls P gf (#[.func (.yield l) #[] #[]] ++ lb) W fun e W' =>
   (∃ v, e = .returned v ∧ ((∃ xs, S xs ∧ J xs W') ∨ (∃ pre, Sp pre ∧ Jx pre W'))) ∨ (e = .panicked ch ∧ ∃ pre, Sn pre ∧ J pre W')
def roundEnd {α : Type} (n₀ : Nat) (K : Nat → Prop) (I : List α → World → Prop) (Ix : Code → List α → World → Prop) (xs : List α) (W : World) : Exit → Act → World → Prop
 | .normal, _, W' => KeepsOthers W W' ∧ Below n₀ W W' ∧ (∀ j, K j → W'.heap[j]? = W.heap[j]?) ∧ I xs W'
 | .ret, _, W' => KeepsOthers W W' ∧ Below n₀ W W' ∧ Ix .ret xs W'
 | .exit id, _, W' => KeepsOthers W W' ∧ Below n₀ W W' ∧ Ix (.exit id) xs W'
 | .goto t, _, W' => KeepsOthers W W' ∧ Below n₀ W W' ∧ Ix (.goto t) xs W'
 | .panic _, _, _ => False
 | .outgrown, _, _ => False
def marked (a : Act) (D : Nat) : Act := { a with defers := { target := .collected D, args := #[] } :: a.defers }
theorem wp_range {α : Type} {P : Program} {g : Operand} {ps : Array Tmp} {assign body : Code} {Q : Exit → Act → World → Prop} {a : Act} {w : World}
  {gf : Nat} {lb : Array Value} (hg : a.eval g = .func (.func gf) #[] lb) (eg : ∀ args w, (callFunc gf args).run P w = .ok (.enter gf args) w)
  {encs : α → Array Value} {K : Nat → Prop} {S Sp Sn : List α → Prop} {ch : List PanicEntry} {N : Nat} {w0 : World} (hseq : Seq3 P gf lb encs K S Sp Sn ch N w0)
  (n₀ : Nat) (hn : n₀ ≤ w.heap.size) (hK : ∀ j, K j → j < w.heap.size) (hb0 : Below w0.heap.size w0 w) (hps : ∀ x, (encs x).size = ps.size)
  (I : List α → World → Prop) (Ix : Code → List α → World → Prop) (hI : Stays I) (hIx : ∀ c, Stays (Ix c)) (h0 : I [] w) (Ax : Array Value → α → Act → World → Prop) (hAx : ∀ T a', Stays (fun x W => Ax T x a' W))
  (hassign : ∀ (l : Nat) (pre : List α) (x : α) (W : World) (R : Act → World → Prop), I pre W → Below n₀ w W → w.heap.size ≤ W.heap.size → pre.length < N →
   (∀ a' W', KeepsOthers W W' → Below n₀ W W' → (∀ j, K j → W'.heap[j]? = W.heap[j]?) → I pre W' → Ax a.tmps x a' W' → R a' W') →
   assign.wpIn (Fence.wide.inRound l) 3 P (Exit.then R (fun _ _ _ => False)) { tmps := (ps.zip (encs x)).foldl (fun t (p, v) => t.setIfInBounds p v) a.tmps, defers := [] } W)
  (hbody : ∀ (l : Nat) (pre : List α) (x : α) (a' : Act) (W : World), I pre W → Ax a.tmps x a' W → Below n₀ w W → w.heap.size ≤ W.heap.size → pre.length < N → body.wpIn (Fence.wide.inRound l) 3 P (roundEnd n₀ K I Ix (pre ++ [x]) W) a' W)
  (hdone : ∀ (xs : List α) (W : World), S xs → I xs W → Below n₀ w W → w.heap.size < W.heap.size → W.heap[w.heap.size]? = some (.deferred (some [])) → Q .normal (marked a w.heap.size) W)
  (hstop : ∀ (c : Code) (pre : List α) (W : World), Sp pre → Ix c pre W → Below n₀ w W → w.heap.size < W.heap.size → W.heap[w.heap.size]? = some (.deferred (some [])) → c.wp P Q (marked a w.heap.size) W)
  (hpanic : ∀ (pre : List α) (W : World), Sn pre → I pre W → Below n₀ w W → w.heap.size < W.heap.size → W.heap[w.heap.size]? = some (.deferred (some [])) → Q (.panic ch) (marked a w.heap.size) W) :
  (Code.rangeFunc g ps assign body).wp P Q a w := by
 refine (wpIn_wide (n := 3)).1 (wpIn_rangeFunc fun fn _ => ?_)
 obtain ⟨mk, hmk⟩ : ∃ mk : LoopState → Option Code → Obj, mk = fun st pe => .loop { state := st, pending := pe, fn, tmps := a.tmps, params := ps, assign, body, defers := w.heap.size } := ⟨_, rfl⟩
 have hcl : ∀ st pe, (mk st pe).isCells = false := fun st pe => by rw [hmk]; rfl
 obtain ⟨W1, hW1⟩ : ∃ W1, (w.alloc (.deferred (some []))).alloc (mk .ready none) = W1 := ⟨_, rfl⟩
 have hbW : Below w.heap.size w W1 := by rw [← hW1]; exact ((Below.refl _ w).alloc (Nat.le_refl _) _).alloc (by simp) _
 have hL1 : W1.heap[w.heap.size + 1]? = some (mk .ready none) := by
  rw [← hW1]; have := World.alloc_heap_new (w.alloc (.deferred (some []))) (mk .ready none); rwa [World.size_alloc] at this
 have hD1 : W1.heap[w.heap.size]? = some (.deferred (some [])) := by rw [← hW1]; exact (Below.heap_alloc _ _ _ (by simp)).trans (World.alloc_heap_new w _)
 -- what is kept beside the invariant: the loop's record, the block of deferred calls
 let B (st : LoopState) (pe : Option Code) (W : World) : Prop := Below n₀ w W ∧ w.heap.size + 1 < W.heap.size ∧ W.heap[w.heap.size + 1]? = some (mk st pe) ∧ W.heap[w.heap.size]? = some (.deferred (some []))
 have hB : ∀ {st pe} {A C : World}, B st pe A → Below A.heap.size A C → B st pe C := fun {st pe A C} h hb =>
  ⟨h.1.trans (hb.mono (by have := h.2.1; omega)), Nat.lt_of_lt_of_le h.2.1 hb.size, (hb.block _ h.2.1).trans h.2.2.1, (hb.block _ (by have := h.2.1; omega)).trans h.2.2.2⟩
 have hput : ∀ {st pe st' pe'} {A : World}, B st pe A → B st' pe' (A.putObj (w.heap.size + 1) (mk st' pe')) := fun {st pe st' pe' A} h =>
  ⟨h.1.trans (below_putObj (o := mk st pe) _ (by omega)), by simpa using h.2.1, World.putObj_heap_same h.2.1, (World.putObj_heap_other (by omega)).trans h.2.2.2⟩
 have hIp : ∀ {s st pe A} (o' : Obj), I s A → B st pe A → I s (A.putObj (w.heap.size + 1) o') := fun o' hi h => hI _ _ _ hi (CellsLie.putObj o' h.2.2.1 (hcl _ _))
 have hIxp : ∀ {c s st pe A} (o' : Obj), Ix c s A → B st pe A → Ix c s (A.putObj (w.heap.size + 1) o') := fun o' hi h => hIx _ _ _ _ hi (CellsLie.putObj o' h.2.2.1 (hcl _ _))
 have hKp : ∀ {A : World} (o' : Obj) j, K j → (A.putObj (w.heap.size + 1) o').heap[j]? = A.heap[j]? := fun o' j hj => World.putObj_heap_other (by have := hK j hj; omega)
 refine ⟨w.heap.size + 1, [{ target := .collected w.heap.size, args := #[] }], W1, { target := .fn (.func gf) lb, args := #[.func (.yield (w.heap.size + 1)) #[] #[]] }, W1, gf,
  #[.func (.yield (w.heap.size + 1)) #[] #[]] ++ lb, W1, ?_, ?_, ?_, ?_, fun h => (by cases h), callsIn_wide.2 ?_⟩
 · rw [← hW1, hmk]; exact run_enterLoop_outer _ _ _ _ _
 · simp only [resolve, hg]; simp [go_sem]
 · intro f' hf'; simp [Target.leads] at hf'; subst hf'; trivial
 · simp [invoke, go_sem, eg]
 refine (hseq (w.heap.size + 1) (fun pre W => I pre W ∧ B .ready none W) (fun pre W => ∃ c, Ix c pre W ∧ B .done (some c) W) W1 (hb0.trans (hbW.mono hb0.size))
  (fun s A C h hb => ⟨hI _ _ _ h.1 (CellsLie.of_below hb), hB h.2 hb⟩) (fun s A C h hb => by obtain ⟨c, h1, h2⟩ := h; exact ⟨c, hIx c _ _ _ h1 (CellsLie.of_below hb), hB h2 hb⟩)
  ?_ ⟨hI _ _ _ h0 (CellsLie.of_below hbW), hbW.mono hn, by rw [← hW1]; simp, hL1, hD1⟩).mono ?_
 ·
  rintro pre x W ⟨hi, hb⟩ hlen
  have hy := run_yield (P := P) (args := encs x) (by rw [hb.2.2.1, hmk]) (hps x)
  refine ⟨fn, _, assign, body, hy, roundIn_of_wpIn trivial (hassign _ pre x W _ hi hb.1 (by have := hb.2.1; omega) hlen fun a' V hkV hbV hKV hiV haV => ?_)⟩
  have hbv : B .ready none V := ⟨hb.1.trans hbV, Nat.lt_of_lt_of_le hb.2.1 hkV.size, hkV.same _ _ hb.2.2.1 (hcl _ _), hkV.same _ _ hb.2.2.2 rfl⟩
  refine ⟨_, run_beginRound (by rw [hbv.2.2.1, hmk]) rfl, ?_⟩
  have hbb : B .busy none (V.putObj (w.heap.size + 1) (mk .busy none)) := hput hbv
  have hbo := hbody (w.heap.size + 1) pre x a' (V.putObj (w.heap.size + 1) (mk .busy none)) (hIp _ hiV hbv) (hAx _ a' _ _ _ haV (CellsLie.putObj _ hbv.2.2.1 (hcl _ _))) hbb.1 (by have := hbb.2.1; omega) hlen
  have hbo2 := hbo
  rw [hmk] at hbo2
  refine wpIn_mono hbo2 ?_
  have fin : ∀ (jump : Option Code) (W3 : World), KeepsOthers (V.putObj (w.heap.size + 1) (mk .busy none)) W3 → Below n₀ (V.putObj (w.heap.size + 1) (mk .busy none)) W3 →
    B .busy none W3 ∧ (Instr.endRound (w.heap.size + 1) jump).run P W3 = .ok (.bool jump.isNone) (W3.putObj (w.heap.size + 1) (mk (if jump.isNone then .ready else .done) jump)) := fun jump W3 hk hbl => by
   have h3 : W3.heap[w.heap.size + 1]? = some (mk .busy none) := hk.same _ _ hbb.2.2.1 (hcl _ _)
   refine ⟨⟨hbb.1.trans hbl, Nat.lt_of_lt_of_le hbb.2.1 hk.size, h3, hk.same _ _ hbb.2.2.2 rfl⟩, ?_⟩
   rw [hmk] at h3 ⊢
   exact run_endRound (P := P) jump h3
  rw [hmk] at fin
  rintro e a3 W3 hp
  cases e with
  | normal =>
   obtain ⟨hk3, hbl3, hkk, hi3⟩ := hp
   obtain ⟨hb3, hr⟩ := fin none W3 hk3 hbl3
   refine ⟨_, _, hr, .inl ⟨rfl, ⟨by have := hIp (mk .ready none) hi3 hb3; rw [hmk] at this; exact this, by have := hput (st' := .ready) (pe' := none) hb3; rw [hmk] at this; exact this⟩, fun j hj => ?_⟩⟩
   exact (hKp _ j hj).trans ((hkk j hj).trans ((hKp _ j hj).trans (hKV j hj)))
  | ret =>
   obtain ⟨hk3, hbl3, hi3⟩ := hp
   obtain ⟨hb3, hr⟩ := fin (some .ret) W3 hk3 hbl3
   exact ⟨_, _, hr, .inr ⟨rfl, .ret, by have := hIxp (mk .done (some .ret)) hi3 hb3; rw [hmk] at this; exact this, by have := hput (st' := .done) (pe' := some .ret) hb3; rw [hmk] at this; exact this⟩⟩
  | exit id =>
   obtain ⟨hk3, hbl3, hi3⟩ := hp
   obtain ⟨hb3, hr⟩ := fin (some (.exit id)) W3 hk3 hbl3
   exact ⟨_, _, hr, .inr ⟨rfl, .exit id, by have := hIxp (mk .done (some (.exit id))) hi3 hb3; rw [hmk] at this; exact this, by have := hput (st' := .done) (pe' := some (.exit id)) hb3; rw [hmk] at this; exact this⟩⟩
  | goto t =>
   obtain ⟨hk3, hbl3, hi3⟩ := hp
   obtain ⟨hb3, hr⟩ := fin (some (.goto t)) W3 hk3 hbl3
   exact ⟨_, _, hr, .inr ⟨rfl, .goto t, by have := hIxp (mk .done (some (.goto t))) hi3 hb3; rw [hmk] at this; exact this, by have := hput (st' := .done) (pe' := some (.goto t)) hb3; rw [hmk] at this; exact this⟩⟩
  | panic _ => exact hp.elim
  | outgrown => exact hp.elim
 ·
  rintro e W2 (⟨v, rfl, (⟨xs, hS, hi, hb⟩ | ⟨pre, hS, c, hi, hb⟩)⟩ | ⟨rfl, pre, hS, hi, hb⟩)
  ·
   have hend := run_endLoop (P := P) (w := W2) (l := w.heap.size + 1) (by rw [hb.2.2.1, hmk]) (by simp)
   have hb' := hput (st' := .exhausted) (pe' := none) hb
   have hi' := hIp (mk .exhausted none) hi hb
   rw [hmk] at hb' hi'
   exact ⟨none, _, hend, hdone xs _ hS hi' hb'.1 (by have := hb.2.1; simp; omega) hb'.2.2.2⟩
  ·
   have hend := run_endLoop (P := P) (w := W2) (l := w.heap.size + 1) (by rw [hb.2.2.1, hmk]) (by simp)
   have hb' := hput (st' := .exhausted) (pe' := some c) hb
   have hi' := hIxp (mk .exhausted (some c)) hi hb
   rw [hmk] at hb' hi'
   exact ⟨some c, _, hend, wpIn_wide.2 (hstop c pre _ hS hi' hb'.1 (by have := hb.2.1; simp; omega) hb'.2.2.2)⟩
  · exact hpanic pre _ hS hi hb.1 (by have := hb.2.1; omega) hb.2.2.2
def BoxAct (k : Nat) (ps : Array Tmp) (vs : Array Value) (slot : Nat) (t : TypeId) (cs : Array Value) (T : Array Value) (a' : Act) (W : World) : Prop :=
 ∃ Bx, RowIs W Bx t cs ∧ k < Bx ∧ a' = { tmps := ((ps.zip vs).foldl (fun t (p, v) => t.setIfInBounds p v) T).setIfInBounds slot (.pointer (some ⟨Bx, 0, none⟩)), defers := [] }
theorem BoxAct.stays {α : Type} (k : Nat) (ps : Array Tmp) (vs : α → Array Value) (slot : Nat) (t : TypeId) (cs : α → Array Value) (T : Array Value) (a' : Act) : Stays (fun x W => BoxAct k ps (vs x) slot t (cs x) T a' W) :=
 fun _ _ _ ⟨Bx, h1, h2, h3⟩ hl => ⟨Bx, hl.same _ _ h1 rfl, h2, h3⟩
theorem calls_of_wp_marks {P : Program} {f : FuncId} {fn : Func} {c : Code} {args : Array Value} {w : World} {R : Ending → World → Prop} (hf : P.funcs[f]? = some fn) (hb : fn.body = some c)
  (h : c.wp P (bodyPostM Fence.wide 3 P fn R) { tmps := args ++ Array.replicate (fn.ntmps - args.size) undef, defers := [] } w) : Calls P f args w R :=
 callsIn_wide.1 (callsIn_of_wp_marks hf hb trivial ((wpIn_wide (n := 3)).2 h) rfl)
theorem wpListIn_app {F : Fence} {nn : Nat} {P : Program} {t e : TypeId} {size bytes : Nat} {z : Value} {ops : Array Oper} {rest : List Oper} {o : Oper} {a : Act} {Q : Exit → Act → World → Prop} {w : World}
  (E : ElemOk P t e size bytes z) (hgd : o.guard = none) (s x : Operand) (ho : o.op = .call { callee := .builtin .append, args := #[s, x], argTypes := #[t, t] })
  {base n : Nat} {xs : List Value} {v : Value} (hs : a.eval s = v) (hown : w.ownsRow base e size v n xs)
  {B : Nat} {A : Option Addr} {m c : Nat} {news : List Value} (hx : a.eval x = .slice A m c) (hr : Rd w B size A m news) (h1 : ∀ u ∈ news, u.oneCell' = true)
  (hb : (n + m) * bytes ≤ 140737488355328) (hbase : base ≤ w.heap.size)
  (h : ∀ v' w', w'.ownsRow base e size v' (n + m) (xs ++ news) → Below base w w' → w.grownBy w' v.ownBlock → (v'.ownBlock = v.ownBlock ∨ v'.ownBlock = some w.heap.size) → wpListIn F nn P ops Q rest (a.put o.dst v') w') : wpListIn F nn P ops Q (o :: rest) a w :=
 wpListIn_plain hgd fun K hK => by
  obtain ⟨i, hi, hz, hsize, hby⟩ := info_parts E.info
  obtain ⟨v', w', hrun, h2, h3, h4⟩ := run_append_any (P := P) w base t o.type e i z size bytes E.ht hi hz hsize hby E.hzs E.hsz v n xs hown B A m c news hr h1 (E.room hb) hb hbase
  unfold Oper.wpIn
  refine ⟨by simp [Oper.about, ho, resolve, Target.leads, Sem.run_pure], ?_⟩
  rw [Oper.semAt_plain F _ _ (by rw [ho]; intro c hc'; cases hc')]
  unfold execOp
  simp only [ho, resolve, invoke, builtin, Sem.run_bind, Sem.run_pure, Result.andThen_ok, List.map_toArray, List.map_cons, List.map_nil, hs, hx, hrun]
  exact hK _ _ (h v' w' h2 (below_of_grown hown h3 hbase) h3 h4)
end Go.Proofs.YtkicidopjihjmaaGreat
namespace Go.Proofs.YtkicidopjihjmaaGreat
open Go Go.RowKit
structure Past (k : Nat) (w w' : World) : Prop where
 below : Below k w w'
 block : ∀ j, j ≠ k → j < w.heap.size → w'.heap[j]? = w.heap[j]?
 size : w.heap.size ≤ w'.heap.size
theorem cell_of_heap {w w' : World} {p : Addr} (h : w'.heap[p.block]? = w.heap[p.block]?) : w'.cell? p = w.cell? p := by
 unfold World.cell?; rw [h]
theorem frozen_of_heap {w w' : World} {p : Addr} (h : w'.heap[p.block]? = w.heap[p.block]?) : w'.frozen? p = w.frozen? p := by
 unfold World.frozen?; rw [h]
theorem Past.cell {k : Nat} {w w' : World} (h : Past k w w') (p : Addr) (h1 : p.block ≠ k) (h2 : p.block < w.heap.size) : w'.cell? p = w.cell? p := cell_of_heap (h.block _ h1 h2)
theorem Past.frozen {k : Nat} {w w' : World} (h : Past k w w') (p : Addr) (h1 : p.block ≠ k) (h2 : p.block < w.heap.size) : w'.frozen? p = w.frozen? p := frozen_of_heap (h.block _ h1 h2)
theorem heap_setCell_ne (w : World) (p : Addr) (v : Value) (j : Nat) (h : j ≠ p.block) : (w.setCell p v).heap[j]? = w.heap[j]? := by
 simp only [World.setCell, Array.getElem?_modify]
 rw [if_neg (fun e => h e.symm)]
theorem Past.set {k : Nat} {w : World} (o : Nat) (v : Value) : Past k w (w.setCell ⟨k, o, none⟩ v) :=
 ⟨(Below.refl k w).setCell (p := ⟨k, o, none⟩) (Nat.le_refl _) v, fun j h1 _ => heap_setCell_ne _ _ _ _ h1, by simp⟩
theorem Past.trans {k : Nat} {a b c : World} (h1 : Past k a b) (h2 : Past k b c) : Past k a c :=
 ⟨h1.below.trans h2.below, fun j hj hl => (h2.block j hj (Nat.lt_of_lt_of_le hl h1.size)).trans (h1.block j hj hl), Nat.le_trans h1.size h2.size⟩
theorem Past.of_below {k : Nat} {a b : World} (hk : k < a.heap.size) (h : Below a.heap.size a b) : Past k a b :=
 ⟨h.mono (Nat.le_of_lt hk), fun j _ hl => h.block j hl, h.size⟩
theorem Past.alloc {k : Nat} {w : World} (hk : k < w.heap.size) (o : Obj) : Past k w (w.alloc o) := Past.of_below hk ((Below.refl _ w).alloc (Nat.le_refl _) o)
def RowAt (w : World) (g : Nat) (t : TypeId) (cs : Array Value) : Prop := w.heap[g]? = some (.cells cs t (0, 0))
section
variable {w w' : World} {g : Nat} {t : TypeId} {cs : Array Value}
theorem RowAt.lt (h : RowAt w g t cs) : g < w.heap.size := by
 rcases Nat.lt_or_ge g w.heap.size with hlt | hge
 · exact hlt
 · unfold RowAt at h; rw [Array.getElem?_eq_none hge] at h; cases h
theorem RowAt.cell (h : RowAt w g t cs) (i : Nat) : w.cell? ⟨g, i, none⟩ = cs[i]? := by
 unfold World.cell?; rw [show w.heap[(⟨g, i, none⟩ : Addr).block]? = some (.cells cs t (0, 0)) from h]; simp
theorem RowAt.frozen (h : RowAt w g t cs) (i : Nat) : w.frozen? ⟨g, i, none⟩ = false := by
 unfold World.frozen?; rw [show w.heap[(⟨g, i, none⟩ : Addr).block]? = some (.cells cs t (0, 0)) from h]; simp
theorem RowAt.new (w : World) (t : TypeId) (cs : Array Value) : RowAt (w.alloc (.cells cs t)) w.heap.size t cs := heap_alloc_last w _
theorem RowAt.heap (h : RowAt w g t cs) (hk : w'.heap[g]? = w.heap[g]?) : RowAt w' g t cs := hk.trans h
theorem RowAt.below (h : RowAt w g t cs) (hb : Below w.heap.size w w') : RowAt w' g t cs := (hb.block g h.lt).trans h
theorem cl {w : World} {g : Nat} {t : TypeId} {cs : Array Value} (h : RowAt w g t cs) (i : Nat) {v : Value} (hv : cs[i]? = some v := by rfl) : w.cell? ⟨g, i, none⟩ = some v := (h.cell i).trans hv
theorem fz {w : World} {g : Nat} {t : TypeId} {cs : Array Value} (h : RowAt w g t cs) : w.frozen? ⟨g, 0, none⟩ = false ∧ w.frozen? ⟨g, 1, none⟩ = false ∧ w.frozen? ⟨g, 2, none⟩ = false ∧ w.frozen? ⟨g, 3, none⟩ = false ∧ w.frozen? ⟨g, 4, none⟩ = false ∧ w.frozen? ⟨g, 5, none⟩ = false ∧ w.frozen? ⟨g, 6, none⟩ = false := ⟨h.frozen 0, h.frozen 1, h.frozen 2, h.frozen 3, h.frozen 4, h.frozen 5, h.frozen 6⟩
theorem ba (w : World) (o : Obj) : Below w.heap.size w (w.alloc o) := (Below.refl _ _).alloc (Nat.le_refl _) o
theorem rl {w : World} {g : Nat} {t : TypeId} {v : Value} (h : RowAt w g t #[v]) : w.cell? ⟨g, 0, none⟩ = some v ∧ g < w.heap.size := ⟨cl h 0, h.lt⟩
theorem baw {w w2 : World} {o : Obj} (h : w.alloc o = w2) : Below w.heap.size w w2 := by rw [← h]; exact ba w o
theorem bt {W w w2 : World} (h : Hid (Below W.heap.size W w)) (hb : Below w.heap.size w w2) : Hid (Below W.heap.size W w2) := Hi (h.out.trans (hb.mono h.out.size))
theorem al2 (w : World) (c0 : Array Value) (t0 : TypeId) (c1 : Array Value) (t1 : TypeId) : (RowAt ((w.alloc (.cells c0 t0)).alloc (.cells c1 t1)) w.heap.size t0 c0 ∧ RowAt ((w.alloc (.cells c0 t0)).alloc (.cells c1 t1)) (w.heap.size + 1) t1 c1) ∧ Below w.heap.size w (w.alloc (.cells c0 t0)) ∧ Below (w.alloc (.cells c0 t0)).heap.size (w.alloc (.cells c0 t0)) ((w.alloc (.cells c0 t0)).alloc (.cells c1 t1)) :=
  ⟨⟨(RowAt.new w t0 c0).below (ba _ _), by have h := RowAt.new (w.alloc (.cells c0 t0)) t1 c1; rw [World.size_alloc] at h; exact h⟩, ba _ _, ba _ _⟩
theorem al3 (w : World) (c0 : Array Value) (t0 : TypeId) (c1 : Array Value) (t1 : TypeId) (c2 : Array Value) (t2 : TypeId) : (RowAt (((w.alloc (.cells c0 t0)).alloc (.cells c1 t1)).alloc (.cells c2 t2)) w.heap.size t0 c0 ∧ RowAt (((w.alloc (.cells c0 t0)).alloc (.cells c1 t1)).alloc (.cells c2 t2)) (w.heap.size + 1) t1 c1 ∧ RowAt (((w.alloc (.cells c0 t0)).alloc (.cells c1 t1)).alloc (.cells c2 t2)) (w.heap.size + 1 + 1) t2 c2) ∧ Below w.heap.size w (w.alloc (.cells c0 t0)) ∧ Below (w.alloc (.cells c0 t0)).heap.size (w.alloc (.cells c0 t0)) ((w.alloc (.cells c0 t0)).alloc (.cells c1 t1)) ∧ Below ((w.alloc (.cells c0 t0)).alloc (.cells c1 t1)).heap.size ((w.alloc (.cells c0 t0)).alloc (.cells c1 t1)) (((w.alloc (.cells c0 t0)).alloc (.cells c1 t1)).alloc (.cells c2 t2)) :=
  have h := al2 w c0 t0 c1 t1
  ⟨⟨h.1.1.below (ba _ _), h.1.2.below (ba _ _), by have h := RowAt.new ((w.alloc (.cells c0 t0)).alloc (.cells c1 t1)) t2 c2; rw [World.size_alloc, World.size_alloc] at h; exact h⟩, h.2.1, h.2.2, ba _ _⟩
theorem al4 (w : World) (c0 : Array Value) (t0 : TypeId) (c1 : Array Value) (t1 : TypeId) (c2 : Array Value) (t2 : TypeId) (c3 : Array Value) (t3 : TypeId) : (RowAt ((((w.alloc (.cells c0 t0)).alloc (.cells c1 t1)).alloc (.cells c2 t2)).alloc (.cells c3 t3)) w.heap.size t0 c0 ∧ RowAt ((((w.alloc (.cells c0 t0)).alloc (.cells c1 t1)).alloc (.cells c2 t2)).alloc (.cells c3 t3)) (w.heap.size + 1) t1 c1 ∧ RowAt ((((w.alloc (.cells c0 t0)).alloc (.cells c1 t1)).alloc (.cells c2 t2)).alloc (.cells c3 t3)) (w.heap.size + 1 + 1) t2 c2 ∧ RowAt ((((w.alloc (.cells c0 t0)).alloc (.cells c1 t1)).alloc (.cells c2 t2)).alloc (.cells c3 t3)) (w.heap.size + 1 + 1 + 1) t3 c3) ∧ Below w.heap.size w (w.alloc (.cells c0 t0)) ∧ Below (w.alloc (.cells c0 t0)).heap.size (w.alloc (.cells c0 t0)) ((w.alloc (.cells c0 t0)).alloc (.cells c1 t1)) ∧ Below ((w.alloc (.cells c0 t0)).alloc (.cells c1 t1)).heap.size ((w.alloc (.cells c0 t0)).alloc (.cells c1 t1)) (((w.alloc (.cells c0 t0)).alloc (.cells c1 t1)).alloc (.cells c2 t2)) ∧ Below (((w.alloc (.cells c0 t0)).alloc (.cells c1 t1)).alloc (.cells c2 t2)).heap.size (((w.alloc (.cells c0 t0)).alloc (.cells c1 t1)).alloc (.cells c2 t2)) ((((w.alloc (.cells c0 t0)).alloc (.cells c1 t1)).alloc (.cells c2 t2)).alloc (.cells c3 t3)) :=
  have h := al3 w c0 t0 c1 t1 c2 t2
  ⟨⟨h.1.1.below (ba _ _), h.1.2.1.below (ba _ _), h.1.2.2.below (ba _ _), by have h := RowAt.new (((w.alloc (.cells c0 t0)).alloc (.cells c1 t1)).alloc (.cells c2 t2)) t3 c3; rw [World.size_alloc, World.size_alloc, World.size_alloc] at h; exact h⟩, h.2.1, h.2.2.1, h.2.2.2, ba _ _⟩
theorem al5 (w : World) (c0 : Array Value) (t0 : TypeId) (c1 : Array Value) (t1 : TypeId) (c2 : Array Value) (t2 : TypeId) (c3 : Array Value) (t3 : TypeId) (c4 : Array Value) (t4 : TypeId) : (RowAt (((((w.alloc (.cells c0 t0)).alloc (.cells c1 t1)).alloc (.cells c2 t2)).alloc (.cells c3 t3)).alloc (.cells c4 t4)) w.heap.size t0 c0 ∧ RowAt (((((w.alloc (.cells c0 t0)).alloc (.cells c1 t1)).alloc (.cells c2 t2)).alloc (.cells c3 t3)).alloc (.cells c4 t4)) (w.heap.size + 1) t1 c1 ∧ RowAt (((((w.alloc (.cells c0 t0)).alloc (.cells c1 t1)).alloc (.cells c2 t2)).alloc (.cells c3 t3)).alloc (.cells c4 t4)) (w.heap.size + 1 + 1) t2 c2 ∧ RowAt (((((w.alloc (.cells c0 t0)).alloc (.cells c1 t1)).alloc (.cells c2 t2)).alloc (.cells c3 t3)).alloc (.cells c4 t4)) (w.heap.size + 1 + 1 + 1) t3 c3 ∧ RowAt (((((w.alloc (.cells c0 t0)).alloc (.cells c1 t1)).alloc (.cells c2 t2)).alloc (.cells c3 t3)).alloc (.cells c4 t4)) (w.heap.size + 1 + 1 + 1 + 1) t4 c4) ∧ Below w.heap.size w (w.alloc (.cells c0 t0)) ∧ Below (w.alloc (.cells c0 t0)).heap.size (w.alloc (.cells c0 t0)) ((w.alloc (.cells c0 t0)).alloc (.cells c1 t1)) ∧ Below ((w.alloc (.cells c0 t0)).alloc (.cells c1 t1)).heap.size ((w.alloc (.cells c0 t0)).alloc (.cells c1 t1)) (((w.alloc (.cells c0 t0)).alloc (.cells c1 t1)).alloc (.cells c2 t2)) ∧ Below (((w.alloc (.cells c0 t0)).alloc (.cells c1 t1)).alloc (.cells c2 t2)).heap.size (((w.alloc (.cells c0 t0)).alloc (.cells c1 t1)).alloc (.cells c2 t2)) ((((w.alloc (.cells c0 t0)).alloc (.cells c1 t1)).alloc (.cells c2 t2)).alloc (.cells c3 t3)) ∧ Below ((((w.alloc (.cells c0 t0)).alloc (.cells c1 t1)).alloc (.cells c2 t2)).alloc (.cells c3 t3)).heap.size ((((w.alloc (.cells c0 t0)).alloc (.cells c1 t1)).alloc (.cells c2 t2)).alloc (.cells c3 t3)) (((((w.alloc (.cells c0 t0)).alloc (.cells c1 t1)).alloc (.cells c2 t2)).alloc (.cells c3 t3)).alloc (.cells c4 t4)) :=
  have h := al4 w c0 t0 c1 t1 c2 t2 c3 t3
  ⟨⟨h.1.1.below (ba _ _), h.1.2.1.below (ba _ _), h.1.2.2.1.below (ba _ _), h.1.2.2.2.below (ba _ _), by have h := RowAt.new ((((w.alloc (.cells c0 t0)).alloc (.cells c1 t1)).alloc (.cells c2 t2)).alloc (.cells c3 t3)) t4 c4; rw [World.size_alloc, World.size_alloc, World.size_alloc, World.size_alloc] at h; exact h⟩, h.2.1, h.2.2.1, h.2.2.2.1, h.2.2.2.2, ba _ _⟩
theorem RowAt.past {k : Nat} (h : RowAt w g t cs) (hb : Past k w w') (hn : g ≠ k) : RowAt w' g t cs := (hb.block g hn h.lt).trans h
theorem RowAt.drew (h : RowAt w g t cs) : RowAt w.drew g t cs := h
theorem RowAt.drewN (h : RowAt w g t cs) (n : Nat) : RowAt (w.drewN n) g t cs := h
theorem RowAt.to (h : RowAt w g t cs) (e : w = w') : RowAt w' g t cs := e ▸ h
theorem Past.drew {k : Nat} {a b : World} (h : Past k a b) : Past k a b.drew := ⟨h.below.drew, h.block, h.size⟩
theorem RowAt.set (h : RowAt w g t cs) (i : Nat) (v : Value) : RowAt (w.setCell ⟨g, i, none⟩ v) g t (cs.setIfInBounds i v) := by
 rw [setCell_eq_setRow w g i cs t (0, 0) v h]; exact setRow_heap w g cs _ t _ h
end
theorem setRow_past (w : World) (g : Nat) (cs : Array Value) : Past g w (w.setRow g cs) := by
 have hb : ∀ j, j ≠ g → (w.setRow g cs).heap[j]? = w.heap[j]? := fun j hj => by
  simp only [World.setRow, Array.getElem?_modify]
  rw [if_neg (fun e => hj e.symm)]
 refine ⟨⟨rfl, rfl, rfl, by simp [World.setRow], fun j hj => hb j (by omega)⟩, fun j hj _ => hb j hj, by simp [World.setRow]⟩
theorem run_storeVar_rowAt {P : Program} (w : World) (g : Nat) (ty t : TypeId) (cur cells : Array Value) (hrow : RowAt w g t cur) (hs : cur.size = cells.size) (hi : (P.info? ty).map (·.size) = some cells.size) (h1 : cells.all (·.oneCell') = true) :
  (storeVar ty ⟨g, 0, none⟩ (.agg cells)).run P w = .ok () (w.setRow g cells) := by
 have h := run_storeCells_at P g 0 t cells.toList 0 cur w hrow (by simp; omega) (fun v hv => (Array.all_eq_true_iff_forall_mem.1 h1) v (by simpa using hv))
 have he : (List.take (0 + 0) cur.toList ++ cells.toList ++ List.drop (0 + 0 + cells.toList.length) cur.toList).toArray = cells := by
  rw [List.drop_eq_nil_of_le (by simp; omega)]; simp
 rw [he] at h
 cases hq : P.info? ty with
 | none => simp [hq] at hi
 | some i =>
  have hs : cells.size = i.size := by simp [hq] at hi; omega
  simp [storeVar, sizeOf, typeInfo, hq, Value.cells, hs, h]
theorem wpList_store_rowAt {P : Program} {ops : Array Oper} {rest : List Oper} {op : Oper} {a : Act} {w : World} {Q : Exit → Act → World → Prop} (hgd : op.guard = none) (ty : TypeId) (x y : Operand) (ho : op.op = .store ty x y)
  (g : Nat) (t : TypeId) (cur cells : Array Value) (hx : a.eval x = .pointer (some ⟨g, 0, none⟩)) (hy : a.eval y = .agg cells) (hrow : RowAt w g t cur) (hs : cur.size = cells.size)
  (hi : (P.info? ty).map (·.size) = some cells.size) (h1 : cells.all (·.oneCell') = true)
  (h : ∀ w', RowAt w' g t cells → Past g w w' → wpList P ops Q rest (a.put op.dst undef) w') : wpList P ops Q (op :: rest) a w :=
 wpList_plain hgd fun _ hK => by
  unfold Oper.wp execOp
  simp only [ho, hx, hy, Instr.storeAt, Instr.sureAddr, Sem.run_bind, Sem.run_pure, Result.andThen_ok, run_storeVar_rowAt w g ty t cur cells hrow hs hi h1]
  exact hK _ _ (h _ (setRow_heap w g _ _ t _ hrow) (setRow_past w g _))
theorem RowAt.range {w : World} {g : Nat} {t : TypeId} {l r : List Value} (h : RowAt w g t (l ++ r).toArray) : w.rangeAt g 0 l := fun j v hj => by
 rw [Nat.zero_add, h.cell, List.getElem?_toArray, List.getElem?_append_left (List.getElem?_eq_some_iff.1 hj).1]; exact hj
theorem Past.refl (k : Nat) (w : World) : Past k w w := ⟨Below.refl _ _, fun _ _ _ => rfl, Nat.le_refl _⟩
theorem wpList_store_new {P : Program} {ops : Array Oper} {rest : List Oper} {o : Oper} {a : Act} {w : World} {Q : Exit → Act → World → Prop} (hgd : o.guard = none) (ty : TypeId) (x y : Operand) (ho : o.op = .store ty x y)
  (c cs : Array Value) (g : Nat) (hx : a.eval x = .pointer (some ⟨g, 0, none⟩)) (hg : g = w.heap.size) (hy : a.eval y = .agg cs) (hi : (P.info? ty).map (·.size) = some cs.size) (hs : c.size = cs.size) (h1 : cs.all (·.oneCell') = true)
  (h : wpList P ops Q rest (a.put o.dst undef) (w.alloc (.cells cs ty))) : wpList P ops Q (o :: rest) a (w.alloc (.cells c ty)) :=
 wpList_plain hgd fun _ hK => by
  subst hg
  unfold Oper.wp execOp
  simp only [ho, hx, hy, Sem.run_bind, Sem.run_pure, Result.andThen_ok, run_storeAt_new w ty c cs hi hs h1]
  exact hK _ _ h
theorem run_make_rowN {P : Program} (t e : TypeId) (i : TypeInfo) (z : Value) (ht : P.underlying t = some (.slice e)) (hi : P.info? e = some i) (hz : i.zero = some z)
  (kl kc : IntKind) (n c : Nat) (hnc : n ≤ c) (hbytes : i.bytes * c ≤ 281474976710656) (h63 : c ≤ 9223372036854775807) (w : World) :
  (Instr.makeSlice t (.int kl (n : Int)) (.int kc (c : Int))).run P w = .ok (.slice (some ⟨w.heap.size, 0, none⟩) n c) (w.alloc (.cells (madeCells z.cells (c * i.size)) e)) := by
 have hb : (i.bytes : Int) * (c : Int) ≤ 281474976710656 := by
  have h : ((i.bytes * c : Nat) : Int) ≤ 281474976710656 := by omega
  rwa [Int.natCast_mul] at h
 have hr := run_make (P := P) w t e i z ht hi hz kl kc n c (by omega) (by omega) hb (by omega)
 simp only [Int.toNat_natCast] at hr
 exact hr
theorem rd_setCell_ne {w : World} {B sz n g o : Nat} {xs : List Value} {p : Addr} {u : Value} (h : Rd w B sz (some ⟨g, o, none⟩) n xs) (hne : p.block ≠ g) : Rd (w.setCell p u) B sz (some ⟨g, o, none⟩) n xs := by
 refine ⟨h.1, fun hn => ?_⟩
 obtain ⟨b, off, e, hb, hc⟩ := h.2 hn
 refine ⟨b, off, e, hb, fun j v hv => ?_⟩
 have hg : b = g := by injection e with e; injection e with e; exact e.symm
 rw [World.cell?_setCell_other]
 · exact hc j v hv
 · intro e2; apply hne; rw [e2]; exact hg
theorem own_form {w : World} {base : Nat} {e : TypeId} {sz n : Nat} {v : Value} {xs : List Value} (h : w.ownsRow base e sz v n xs) : ∃ A c, v = .slice A n c ∧ n ≤ c := by
 rcases h.2 with ⟨rfl, rfl⟩ | ⟨g, cap, cur, rfl, _, _, hnc, _⟩
 · exact ⟨none, 0, rfl, Nat.le_refl _⟩
 · exact ⟨_, _, rfl, hnc⟩
structure PastC (k : Nat) (w w' : World) : Prop where
 below : Below k w w'
 size : w.heap.size ≤ w'.heap.size
 cells : ∀ (j : Nat) (o : Obj), j ≠ k → w.heap[j]? = some o → o.isCells = true → w'.heap[j]? = some o
theorem PastC.refl (k : Nat) (w : World) : PastC k w w := ⟨Below.refl _ _, Nat.le_refl _, fun _ _ _ h _ => h⟩
theorem PastC.trans {k : Nat} {a b c : World} (h : PastC k a b) (g : PastC k b c) : PastC k a c :=
 ⟨h.below.trans g.below, Nat.le_trans h.size g.size, fun j o hj ho hc => g.cells j o hj (h.cells j o hj ho hc) hc⟩
theorem PastC.of_past {k : Nat} {a b : World} (h : Past k a b) : PastC k a b :=
 ⟨h.below, h.size, fun j o hj ho _ => (h.block j hj (Array.getElem?_eq_some_iff.1 ho).1).trans ho⟩
theorem PastC.of_below {k : Nat} {a b : World} (hk : k < a.heap.size) (h : Below a.heap.size a b) : PastC k a b := PastC.of_past (Past.of_below hk h)
theorem PastC.of_lie {k : Nat} {a b : World} (hb : Below k a b) (h : CellsLie a b) : PastC k a b := ⟨hb, h.size, fun j o _ ho hc => h.same j o ho hc⟩
theorem PastC.row {k g : Nat} {a b : World} {t : TypeId} {cs : Array Value} (h : PastC k a b) (hr : RowAt a g t cs) (hn : g ≠ k) : RowAt b g t cs := h.cells g _ hn hr rfl
theorem RowAt.lie {g : Nat} {a b : World} {t : TypeId} {cs : Array Value} (hr : RowAt a g t cs) (h : CellsLie a b) : RowAt b g t cs := h.same g _ hr rfl
theorem own_lie {w w' : World} {base : Nat} {e : TypeId} {size n : Nat} {v : Value} {xs : List Value} (h : w.ownsRow base e size v n xs) (hl : CellsLie w w') : w'.ownsRow base e size v n xs := by
 obtain ⟨h1, h2⟩ := h
 refine ⟨h1, ?_⟩
 rcases h2 with h | ⟨g, cap, cur, hv, hg, hh, r⟩
 · exact .inl h
 · exact .inr ⟨g, cap, cur, hv, hg, hl.same g _ hh rfl, r⟩
theorem own_cells {w : World} {base : Nat} {e : TypeId} {size n : Nat} {v : Value} {xs : List Value} (h : w.ownsRow base e size v n xs) {g : Nat} (hg : v.ownBlock = some g) : ∃ o, w.heap[g]? = some o ∧ o.isCells = true := by
 rcases h.2 with ⟨rfl, _⟩ | ⟨g', cap, cur, rfl, _, hh, _⟩
 · cases hg
 ·
  have : g' = g := by injection hg
  subst this
  exact ⟨_, hh, rfl⟩
theorem own_other {w w' : World} {base : Nat} {e : TypeId} {size n : Nat} {v : Value} {xs : List Value} (h : w.ownsRow base e size v n xs) (hl : ∀ g, base ≤ g → w'.heap[g]? = w.heap[g]?) : w'.ownsRow base e size v n xs := by
 obtain ⟨h1, h2⟩ := h
 refine ⟨h1, ?_⟩
 rcases h2 with h | ⟨g, cap, cur, hv, hg, hh, r⟩
 · exact .inl h
 · exact .inr ⟨g, cap, cur, hv, hg, (hl g hg).trans hh, r⟩
theorem PastC.put {ko l : Nat} {w W : World} {o : Obj} (o' : Obj) (h : PastC ko w W) (hl : W.heap[l]? = some o) (hc : o.isCells = false) (hk : ko ≤ l) : PastC ko w (W.putObj l o') :=
 h.trans (PastC.of_lie (below_putObj (o := o) o' hk) (CellsLie.putObj o' hl hc))
theorem own_other2 {w w' : World} {base : Nat} {e : TypeId} {size n : Nat} {v : Value} {xs : List Value} (h : w.ownsRow base e size v n xs) (hl : ∀ g, base ≤ g → g < w.heap.size → w'.heap[g]? = w.heap[g]?) : w'.ownsRow base e size v n xs := by
 obtain ⟨h1, h2⟩ := h
 refine ⟨h1, ?_⟩
 rcases h2 with h | ⟨g, cap, cur, hv, hg, hh, r⟩
 · exact .inl h
 · exact .inr ⟨g, cap, cur, hv, hg, (hl g hg (Array.getElem?_eq_some_iff.1 hh).1).trans hh, r⟩
theorem own_form2 {w : World} {base : Nat} {e : TypeId} {sz n : Nat} {v : Value} {xs : List Value} (h : w.ownsRow base e sz v n xs) : ∃ A c, v = .slice A n c ∧ n ≤ c ∧ c ≤ 9223372036854775807 := by
 rcases h.2 with ⟨rfl, rfl⟩ | ⟨g, cap, cur, rfl, _, _, hnc, hcm, _⟩
 · exact ⟨none, 0, rfl, Nat.le_refl _, by omega⟩
 · exact ⟨_, _, rfl, hnc, by unfold maxLen at hcm; omega⟩
theorem own_fresh {w : World} {base : Nat} {e : TypeId} {sz n : Nat} {A : Option Addr} {c : Nat} {xs : List Value} (h : w.ownsRow base e sz (.slice A n c) n xs) (p : Addr) (hp : A = some p) : base ≤ p.block := by
 rcases h.2 with ⟨hv, _⟩ | ⟨g, cap, cur, hv, hg, _⟩
 · injection hv with h1; rw [hp] at h1; cases h1
 · injection hv with h1; rw [hp] at h1; injection h1 with h1; subst h1; exact hg
structure RowBox (w : World) (g : Nat) (t : TypeId) (base E sz n : Nat) (v : Value) (xs : List Value) : Prop where
 row : RowAt w g t #[v]
 own : w.ownsRow base E sz v n xs
 lt : g < base
theorem RowBox.below {w w' : World} {g : Nat} {t : TypeId} {base E sz n : Nat} {v : Value} {xs : List Value} (h : RowBox w g t base E sz n v xs) (hb : Below w.heap.size w w') : RowBox w' g t base E sz n v xs :=
 ⟨h.row.below hb, own_keepB h.own hb, h.lt⟩
theorem RowBox.cell {w : World} {g : Nat} {t : TypeId} {base E sz n : Nat} {v : Value} {xs : List Value} (h : RowBox w g t base E sz n v xs) : w.cell? ⟨g, 0, none⟩ = some v := by
 have := h.row.cell 0
 simpa using this
theorem RowBox.store {w2 : World} {g : Nat} {t : TypeId} {base E sz n : Nat} {v v2 : Value} {ys : List Value} (hr : RowAt w2 g t #[v]) (hg : g < base) (ho : w2.ownsRow base E sz v2 n ys) : RowBox (w2.setCell ⟨g, 0, none⟩ v2) g t base E sz n v2 ys :=
 ⟨hr.set 0 v2, own_other ho (fun j hj => heap_setCell_ne _ _ _ _ (by show j ≠ g; omega)), hg⟩
theorem RowAt.belowB {w w2 : World} {g : Nat} {t : TypeId} {cs : Array Value} {base : Nat} (h : RowAt w g t cs) (hg : g < base) (hb : Below base w w2) : RowAt w2 g t cs := (hb.block _ hg).trans h
theorem RowAt.setNe {w : World} {g g2 : Nat} {t : TypeId} {cs : Array Value} {o : Nat} {v : Value} (h : RowAt w g t cs) (hne : g ≠ g2) : RowAt (w.setCell ⟨g2, o, none⟩ v) g t cs := (heap_setCell_ne _ _ _ _ hne).trans h
theorem row1 {w : World} {g : Nat} {t : TypeId} {v : Value} (h : RowAt w g t #[v]) : w.cell? ⟨g, 0, none⟩ = some v := by
 have := h.cell 0
 simpa using this
theorem row20 {w : World} {g : Nat} {t : TypeId} {u v : Value} (h : RowAt w g t #[u, v]) : w.cell? ⟨g, 0, none⟩ = some u := by
 have := h.cell 0
 simpa using this
theorem row21 {w : World} {g : Nat} {t : TypeId} {u v : Value} (h : RowAt w g t #[u, v]) : w.cell? ⟨g, 1, none⟩ = some v := by
 have := h.cell 1
 simpa using this
end Go.Proofs.YtkicidopjihjmaaGreat
namespace Go.Proofs.YtkicidopjihjmaaGreat
open Go Go.RowKit
attribute [local go_sem] via_cell via_frozen
def encW (x : Int) : List Value := [.int .u64 x]
def encI (x : Int) : List Value := [.int .i64 x]
def encE (x : Int × Int) : List Value := [.int .i64 x.1, .int .u64 x.2]
theorem encW_len : ∀ x, (encW x).length = 1 := fun _ => rfl
theorem encI_len : ∀ x, (encI x).length = 1 := fun _ => rfl
theorem encE_len : ∀ x, (encE x).length = 2 := fun _ => rfl
theorem encW_one : ∀ x, ∀ u ∈ encW x, u.oneCell' = true := by intro x u hu; simp [encW] at hu; subst hu; rfl
theorem encE_one : ∀ x, ∀ u ∈ encE x, u.oneCell' = true := by intro x u hu; simp [encE] at hu; rcases hu with rfl | rfl <;> rfl
theorem elS : ElemOk Tryz.prog 22 84 2 16 (.agg #[.int .i64 0, .int .u64 0]) := ⟨Tryz.underlying22, by kernel_rfl, rfl, by omega, by omega, by intro u hu; simp [Value.cells] at hu; rcases hu with rfl | rfl <;> rfl⟩
theorem elE : ElemOk Tryz.prog 29 41 2 16 (.agg #[.int .i64 0, .int .u64 0]) := ⟨Tryz.underlying29, by kernel_rfl, rfl, by omega, by omega, by intro u hu; simp [Value.cells] at hu; rcases hu with rfl | rfl <;> rfl⟩
theorem neqS (w : World) (x y : Int × Int) (r : Bool) (hr : decide (x = y) = r) :
  (binOp .neq 84 (.agg #[.int .i64 x.1, .int .u64 x.2]) (.agg #[.int .i64 y.1, .int .u64 y.2])).run Tryz.prog w = .ok (.bool (!r)) w := by
 obtain ⟨a, b⟩ := x
 obtain ⟨c, d⟩ := y
 simp only [binOp]
 simp [Op.equal, Op.maxDepth, go_sem, run_equalIn_struct]
 subst hr
 by_cases h1 : a = c <;> by_cases h2 : b = d <;> simp [h1, h2]
theorem neqE (w : World) (x y : Int × Int) (r : Bool) (hr : decide (x = y) = r) :
  (binOp .neq 41 (.agg #[.int .i64 x.1, .int .u64 x.2]) (.agg #[.int .i64 y.1, .int .u64 y.2])).run Tryz.prog w = .ok (.bool (!r)) w := by
 obtain ⟨a, b⟩ := x
 obtain ⟨c, d⟩ := y
 simp only [binOp]
 simp [Op.equal, Op.maxDepth, go_sem, run_equalIn_struct]
 subst hr
 by_cases h1 : a = c <;> by_cases h2 : b = d <;> simp [h1, h2]
theorem CloneS (B : Nat) (A : Option Addr) (n c : Nat) (xs : List Value) (W : World) (hr : Rd W B 2 A n xs) (hB : B ≤ W.heap.size) (h1 : ∀ u ∈ xs, u.oneCell' = true) (hb : n ≤ 4096) :
  Calls Tryz.prog 38 #[.slice A n c] W fun e W' => ∃ v, e = .returned v ∧ W'.ownsRow W.heap.size 84 2 v n xs ∧ Below W.heap.size W W' := by
 cases A with
 | none =>
  obtain rfl := rd_none hr
  obtain rfl := hr.nil
  have hn := fun w => Lib.run_eql_slice_nil (P := Tryz.prog) w 22 84 none 0 c 0 0 Tryz.underlying22
  go_enter Tryz.func38, Tryz.ntmps38
  go_wp2
  go_ret
  exact ⟨_, rfl, World.ownsRow_nil _ _ _ _, Below.refl _ _⟩
 | some a =>
  have hn := fun w => Lib.run_eql_slice_nil (P := Tryz.prog) w 22 84 (some a) n c 0 0 Tryz.underlying22
  have hown := World.ownsRow_lit (base := W.heap.size) (e := 84) (size := 2) W #[] 0 (Nat.le_refl _) (by simp [maxLen]) rfl
  go_enter Tryz.func38, Tryz.ntmps38
  go_wp2_with (at_builtin; refine wpList_app elS rfl _ _ rfl rfl hown rfl (hr.alloc hB _) h1 (by omega) (by simp) ?_; intro v1 w1 hown1 hb1 _ _)
  go_ret
  exact ⟨v1, rfl, by simpa using hown1, ((Below.refl _ _).alloc (Nat.le_refl _) _).trans hb1⟩
theorem CloneE (B : Nat) (A : Option Addr) (n c : Nat) (xs : List Value) (W : World) (hr : Rd W B 2 A n xs) (hB : B ≤ W.heap.size) (h1 : ∀ u ∈ xs, u.oneCell' = true) (hb : n ≤ 4096) :
  Calls Tryz.prog 40 #[.slice A n c] W fun e W' => ∃ v, e = .returned v ∧ W'.ownsRow W.heap.size 41 2 v n xs ∧ Below W.heap.size W W' := by
 cases A with
 | none =>
  obtain rfl := rd_none hr
  obtain rfl := hr.nil
  have hn := fun w => Lib.run_eql_slice_nil (P := Tryz.prog) w 29 41 none 0 c 0 0 Tryz.underlying29
  go_enter Tryz.func40, Tryz.ntmps40
  go_wp2
  go_ret
  exact ⟨_, rfl, World.ownsRow_nil _ _ _ _, Below.refl _ _⟩
 | some a =>
  have hn := fun w => Lib.run_eql_slice_nil (P := Tryz.prog) w 29 41 (some a) n c 0 0 Tryz.underlying29
  have hown := World.ownsRow_lit (base := W.heap.size) (e := 41) (size := 2) W #[] 0 (Nat.le_refl _) (by simp [maxLen]) rfl
  go_enter Tryz.func40, Tryz.ntmps40
  go_wp2_with (at_builtin; refine wpList_app elE rfl _ _ rfl rfl hown rfl (hr.alloc hB _) h1 (by omega) (by simp) ?_; intro v1 w1 hown1 hb1 _ _)
  go_ret
  exact ⟨v1, rfl, by simpa using hown1, ((Below.refl _ _).alloc (Nat.le_refl _) _).trans hb1⟩
theorem EqualE (B1 B2 : Nat) (A1 A2 : Option Addr) (c1 c2 : Nat) (xs ys : List (Int × Int)) (W : World) (h1 : Rd W B1 2 A1 xs.length (Cs encE xs)) (h2 : Rd W B2 2 A2 ys.length (Cs encE ys)) (hB1 : B1 ≤ W.heap.size) (hB2 : B2 ≤ W.heap.size)
  (hl1 : xs.length ≤ 4096) (hl2 : ys.length ≤ 4096) (r : Bool) (hr : decide (xs = ys) = r) :
  Calls Tryz.prog 19 #[.slice A1 xs.length c1, .slice A2 ys.length c2] W fun e W' => e = .returned (.bool r) ∧ Below W.heap.size W W' := by
 subst hr
 by_cases hlen : xs.length = ys.length
 ·
  have ht : ((xs.length : Int) != (ys.length : Int)) = false := by rw [bne_eq_false_iff_eq]; omega
  have HL := Hi hlen
  clear hlen
  go_enter Tryz.func19, Tryz.ntmps19
  go_wp2_with fail
  go_loopw [13] (fun i wr => ∃ k : Nat, k ≤ xs.length ∧ i = .int .i64 k ∧ xs.take k = ys.take k ∧ Below W.heap.size W wr) (fun i _ => xs.length - (intOf i).toNat)
  case atStart => exact ⟨0, Nat.zero_le _, rfl, rfl, Below.refl _ _⟩
  case round =>
   obtain ⟨k, hk, rfl, hpre, hbw⟩ := hrel
   have HP := Hi hpre
   clear hpre
   by_cases hlt : k < xs.length
   ·
    have hlt2 : k < ys.length := by have := HL.out; omega
    obtain ⟨b1, o1, rfl, hb1, hc1⟩ := (h1.below (hbw.mono hB1)).elem encE_len hlt
    obtain ⟨b2, o2, rfl, hb2, hc2⟩ := (h2.below (hbw.mono hB2)).elem encE_len hlt2
    have hd10 := hc1 0 _ (by omega) rfl
    have hd11 := hc1 1 _ (by omega) rfl
    have hd20 := hc2 0 _ (by omega) rfl
    have hd21 := hc2 1 _ (by omega) rfl
    simp only [Nat.add_zero] at hd10 hd20
    clear hc1 hc2
    have hi2 : (k : Int) < (ys.length : Int) := by omega
    generalize hx : xs[k] = x at *
    generalize hy : ys[k] = y at *
    have HX := Hi hx
    have HY := Hi hy
    clear hx hy
    by_cases hxy : x = y
    ·
     subst hxy
     have hne := fun w => neqE w x x true (by simp)
     go_wp2_with fail
     go_quiet (fail)
     go_wp2_with fail
     go_roundw
     case rel => exact ⟨k + 1, by omega, by go_num, by rw [List.take_succ_eq_append_getElem hlt, List.take_succ_eq_append_getElem hlt2, HP.out, HX.out, HY.out], hbw.trans ⟨rfl, rfl, rfl, Nat.le_refl _, fun _ _ => rfl⟩⟩
     case measure => simp [intOf]; omega
    ·
     have hne := fun w => neqE w x y false (by simpa using hxy)
     go_wp2_with fail
     go_quiet (fail)
     go_wp2_with fail
     go_ret
     exact ⟨ret_bool (by rw [eq_comm, decide_eq_false_iff_not]; intro h; apply hxy; rw [← HX.out, ← HY.out]; simp [h]), hbw.trans ⟨rfl, rfl, rfl, Nat.le_refl _, fun _ _ => rfl⟩⟩
   ·
    go_wp2_with fail
    go_ret
    have he : xs = ys := by have h := HP.out; rw [List.take_of_length_le (by omega), List.take_of_length_le (by have := HL.out; omega)] at h; exact h
    exact ⟨ret_bool (by rw [eq_comm, decide_eq_true_iff]; exact he), hbw⟩
 ·
  have ht : ((xs.length : Int) != (ys.length : Int)) = true := by rw [bne_iff_ne]; omega
  go_enter Tryz.func19, Tryz.ntmps19
  go_wp2
  go_ret
  exact ⟨ret_bool (by rw [eq_comm, decide_eq_false_iff_not]; intro h; exact hlen (by rw [h])), Below.refl _ _⟩
theorem IndexFS (B : Nat) (A : Option Addr) (c g : Nat) (lb : Array Value) (hg : ∀ args w, (callFunc g args).run Tryz.prog w = .ok (.enter g args) w) (p : Int × Int → Bool) (xs : List (Int × Int)) (W : World) (h1 : Rd W B 2 A xs.length (Cs encE xs)) (hB1 : B ≤ W.heap.size) (hl1 : xs.length ≤ 4096)
  (HC : ∀ w x, Below W.heap.size W w → x ∈ xs → Calls Tryz.prog g (#[.agg #[.int .i64 x.1, .int .u64 x.2]] ++ lb) w fun e w' => e = .returned (.bool (p x)) ∧ Below w.heap.size w w') :
  Calls Tryz.prog 147 #[.slice A xs.length c, .func (.func g) #[] lb] W fun e W' => ∃ i : Int, e = .returned (.int .i64 i) ∧ decide (0 ≤ i) = xs.any p ∧ Below W.heap.size W W' := by
 have HC := Hi HC
 go_enter Tryz.func147, Tryz.ntmps147
 go_wp2_with fail
 go_loopw [8] (fun i wr => ∃ k : Nat, k ≤ xs.length ∧ i = .int .i64 k ∧ (xs.take k).any p = false ∧ Below W.heap.size W wr) (fun i _ => xs.length - (intOf i).toNat)
 case atStart => exact ⟨0, Nat.zero_le _, rfl, rfl, Below.refl _ _⟩
 case round =>
  obtain ⟨k, hk, rfl, hpre, hbw⟩ := hrel
  have HP := Hi hpre
  clear hpre
  by_cases hlt : k < xs.length
  ·
   obtain ⟨b1, o1, rfl, hb1, hc1⟩ := (h1.below (hbw.mono hB1)).elem encE_len hlt
   have hd10 := hc1 0 _ (by omega) rfl
   have hd11 := hc1 1 _ (by omega) rfl
   simp only [Nat.add_zero] at hd10
   clear hc1
   have HK := Hi (HC.out wr xs[k] hbw (List.getElem_mem hlt))
   have HX := Hi (show xs.take (k + 1) = xs.take k ++ [xs[k]] from List.take_succ_eq_append_getElem hlt)
   have HM := Hi (List.getElem_mem hlt)
   generalize xs[k] = x at *
   obtain ⟨r, hr⟩ : ∃ r, p x = r := ⟨_, rfl⟩
   have HR := Hi hr
   rw [hr] at HK
   clear hr
   cases r
   ·
    go_wp2_with fail
    refine HK.out.mono ?_
    rintro e w1 ⟨rfl, hb2⟩
    go_wp2_with fail
    go_roundw
    case rel => exact ⟨k + 1, by omega, by go_num, by rw [HX.out, List.any_append, HP.out]; simpa using HR.out, hbw.trans (hb2.mono hbw.size)⟩
    case measure => simp [intOf]; omega
   ·
    go_wp2_with fail
    refine HK.out.mono ?_
    rintro e w1 ⟨rfl, hb2⟩
    go_wp2_with fail
    go_ret
    refine ⟨_, rfl, ?_, hbw.trans (hb2.mono hbw.size)⟩
    have h2 : xs.any p = true := by
     rw [List.any_eq_true]
     exact ⟨x, HM.out, HR.out⟩
    rw [h2]; simp
  ·
   go_wp2_with fail
   go_ret
   refine ⟨_, rfl, ?_, hbw⟩
   have h := HP.out
   rw [List.take_of_length_le (by omega)] at h
   rw [h]; simp
theorem ContainsFS (B : Nat) (A : Option Addr) (c g : Nat) (lb : Array Value) (hg : ∀ args w, (callFunc g args).run Tryz.prog w = .ok (.enter g args) w) (p : Int × Int → Bool) (xs : List (Int × Int)) (W : World) (h1 : Rd W B 2 A xs.length (Cs encE xs)) (hB1 : B ≤ W.heap.size) (hl1 : xs.length ≤ 4096)
  (HC : ∀ w x, Below W.heap.size W w → x ∈ xs → Calls Tryz.prog g (#[.agg #[.int .i64 x.1, .int .u64 x.2]] ++ lb) w fun e w' => e = .returned (.bool (p x)) ∧ Below w.heap.size w w') :
  Calls Tryz.prog 119 #[.slice A xs.length c, .func (.func g) #[] lb] W fun e W' => e = .returned (.bool (xs.any p)) ∧ Below W.heap.size W W' := by
 have HI := Hi (IndexFS B A c g lb hg p xs W h1 hB1 hl1 HC)
 clear HC
 go_enter Tryz.func119, Tryz.ntmps119
 go_wp2_with fail
 refine HI.out.mono ?_
 rintro e w1 ⟨i, rfl, hi, hb⟩
 have HI := Hi hi
 clear hi
 go_wp2_with fail
 go_ret
 exact ⟨ret_bool HI.out, hb⟩
theorem IndexII (B : Nat) (A : Option Addr) (c : Nat) (v : Int) (xs : List Int) (W : World) (h1 : Rd W B 1 A xs.length (Cs encI xs)) (hB1 : B ≤ W.heap.size) (hl1 : xs.length ≤ 4096) :
  Calls Tryz.prog 161 #[.slice A xs.length c, .int .i64 v] W fun e W' => ∃ i : Int, e = .returned (.int .i64 i) ∧ decide (0 ≤ i) = xs.any (fun y => decide (y = v)) ∧ W = W' := by
 go_enter Tryz.func161, Tryz.ntmps161
 go_wp2_with fail
 go_loop [8] (fun i => ∃ k : Nat, k ≤ xs.length ∧ i = .int .i64 k ∧ (xs.take k).any (fun y => decide (y = v)) = false) (fun i => xs.length - (intOf i).toNat)
 case atStart => exact ⟨0, Nat.zero_le _, rfl, rfl⟩
 case round =>
  obtain ⟨k, hk, rfl, hpre⟩ := hrel
  have HP := Hi hpre
  clear hpre
  by_cases hlt : k < xs.length
  ·
   obtain ⟨b1, o1, rfl, hb1, hc1⟩ := h1.elem encI_len hlt
   have hd10 := hc1 0 _ (by omega) rfl
   simp only [Nat.mul_one, Nat.add_zero] at hd10
   clear hc1
   have HX := Hi (show xs.take (k + 1) = xs.take k ++ [xs[k]] from List.take_succ_eq_append_getElem hlt)
   have HM := Hi (List.getElem_mem hlt)
   generalize xs[k] = x at *
   by_cases hv : v = x
   ·
    subst hv
    have hne : (v == v) = true := by simp
    go_wp2_with fail
    go_ret
    refine ⟨_, rfl, ?_, rfl⟩
    have h2 : xs.any (fun y => decide (y = v)) = true := by rw [List.any_eq_true]; exact ⟨v, HM.out, by simp⟩
    rw [h2]; simp
   ·
    have hne : (v == x) = false := by simpa using hv
    have HV := Hi hv
    clear hv
    go_wp2_with fail
    go_round
    case rel => exact ⟨k + 1, by omega, by go_num, by rw [HX.out, List.any_append, HP.out]; have := HV.out; simp; exact fun h => this h.symm⟩
    case measure => simp [intOf]; omega
  ·
   go_wp2_with fail
   go_ret
   refine ⟨_, rfl, ?_, rfl⟩
   have h := HP.out
   rw [List.take_of_length_le (by omega)] at h
   rw [h]; simp
theorem ContainsII (B : Nat) (A : Option Addr) (c : Nat) (v : Int) (xs : List Int) (W : World) (h1 : Rd W B 1 A xs.length (Cs encI xs)) (hB1 : B ≤ W.heap.size) (hl1 : xs.length ≤ 4096) :
  Calls Tryz.prog 152 #[.slice A xs.length c, .int .i64 v] W fun e W' => e = .returned (.bool (xs.any fun y => decide (y = v))) ∧ W = W' := by
 have HI := Hi (IndexII B A c v xs W h1 hB1 hl1)
 go_enter Tryz.func152, Tryz.ntmps152
 go_wp2_with fail
 refine HI.out.mono ?_
 rintro e w1 ⟨i, rfl, hi, rfl⟩
 have HI := Hi hi
 clear hi
 go_wp2_with fail
 go_ret
 exact ⟨ret_bool HI.out, rfl⟩
end Go.Proofs.YtkicidopjihjmaaGreat
namespace Go.Proofs.YtkicidopjihjmaaGreat
def slabOk (s : Int × Int) : Bool := decide (0 ≤ s.1 ∧ s.1 ≤ 2 ∧ s.2 ≤ 1099511627775)
def arOk (ss : List (Int × Int)) : Bool := decide (2 ≤ ss.length ∧ ss.length ≤ 128) && ss.all slabOk
def chk (ss : List (Int × Int)) : Int := if arOk ss = true then 0 else 210
def meantB (ss : List (Int × Int)) (e : Int × Int) : Bool := decide (0 ≤ e.1 ∧ e.1 < ss.length) && decide ((ss.getD e.1.toNat (0, 0)).2 = e.2)
def tagOf (ss : List (Int × Int)) (e : Int × Int) : Int := (ss.getD e.1.toNat (0, 0)).1
def entsF (tag : Int) : Nat → List (Int × Int) → List (Int × Int)
 | _, [] => []
 | i, s :: ss => if s.1 = tag then ((i : Int), s.2) :: entsF tag (i + 1) ss else entsF tag (i + 1) ss
def ents (ss : List (Int × Int)) (tag : Int) : List (Int × Int) := entsF tag 0 ss
def put1 (t : Int) (ss : List (Int × Int)) (e : Int × Int) : List (Int × Int) := ss.set e.1.toNat (t, e.2)
def tk (ss : List (Int × Int)) (j : Nat) : List (Int × Int) := ((ents ss 0).take j).foldl (put1 1) ss
theorem entsF_append (tag : Int) : ∀ (l m : List (Int × Int)) (i : Nat), entsF tag i (l ++ m) = entsF tag i l ++ entsF tag (i + l.length) m
 | [], m, i => by simp [entsF]
 | s :: l, m, i => by
  simp only [List.cons_append, entsF, List.length_cons]
  have h := entsF_append tag l m (i + 1)
  rw [show i + 1 + l.length = i + (l.length + 1) by omega] at h
  by_cases hs : s.1 = tag <;> simp [hs, h]
theorem ents_snoc (ss : List (Int × Int)) (tag : Int) (k : Nat) (hk : k < ss.length) :
  ents (ss.take (k + 1)) tag = ents (ss.take k) tag ++ (if ss[k].1 = tag then [((k : Int), ss[k].2)] else []) := by
 rw [List.take_succ_eq_append_getElem hk]
 unfold ents
 rw [entsF_append]
 have hl : 0 + (ss.take k).length = k := by rw [List.length_take]; omega
 rw [hl]
 simp [entsF]
theorem entsF_mem (tag : Int) : ∀ (ss : List (Int × Int)) (i : Nat) (e : Int × Int), e ∈ entsF tag i ss → ∃ j, j < ss.length ∧ e.1 = ((i + j : Nat) : Int) ∧ ss[j]? = some (tag, e.2)
 | [], _, _, h => by simp [entsF] at h
 | s :: ss, i, e, h => by
  simp only [entsF] at h
  by_cases hs : s.1 = tag
  ·
   rw [if_pos hs, List.mem_cons] at h
   rcases h with rfl | h
   ·
    refine ⟨0, by simp, by simp, ?_⟩
    subst hs; rfl
   ·
    obtain ⟨j, h1, h2, h3⟩ := entsF_mem tag ss (i + 1) e h
    exact ⟨j + 1, by simp; omega, by rw [h2]; omega, by simpa using h3⟩
  ·
   rw [if_neg hs] at h
   obtain ⟨j, h1, h2, h3⟩ := entsF_mem tag ss (i + 1) e h
   exact ⟨j + 1, by simp; omega, by rw [h2]; omega, by simpa using h3⟩
theorem ents_mem {ss : List (Int × Int)} {tag : Int} {e : Int × Int} (h : e ∈ ents ss tag) : 0 ≤ e.1 ∧ e.1 < ss.length ∧ ss[e.1.toNat]? = some (tag, e.2) := by
 obtain ⟨j, h1, h2, h3⟩ := entsF_mem tag ss 0 e h
 rw [Nat.zero_add] at h2
 refine ⟨by omega, by omega, ?_⟩
 rw [h2]; simpa using h3
theorem entsF_length (tag : Int) : ∀ (ss : List (Int × Int)) (i : Nat), (entsF tag i ss).length ≤ ss.length
 | [], _ => by simp [entsF]
 | s :: ss, i => by
  simp only [entsF]
  have := entsF_length tag ss (i + 1)
  by_cases hs : s.1 = tag <;> simp [hs] <;> omega
theorem ents_length (ss : List (Int × Int)) (tag : Int) : (ents ss tag).length ≤ ss.length := entsF_length tag ss 0
theorem entsF_next (tag t : Int) (ht : t ≠ tag) : ∀ (ss : List (Int × Int)) (i : Nat) (e : Int × Int) (r : List (Int × Int)), entsF tag i ss = e :: r → entsF tag i (ss.set (e.1.toNat - i) (t, e.2)) = r
 | [], _, _, _, h => by simp [entsF] at h
 | s :: ss, i, e, r, h => by
  simp only [entsF] at h
  by_cases hs : s.1 = tag
  ·
   rw [if_pos hs] at h
   injection h with h1 h2
   subst h1
   simp [entsF, ht, h2]
  ·
   rw [if_neg hs] at h
   obtain ⟨j, h1, h2, h3⟩ := entsF_mem tag ss (i + 1) e (by rw [h]; simp)
   have hne : e.1.toNat - i = (e.1.toNat - (i + 1)) + 1 := by rw [h2]; omega
   rw [hne, List.set_cons_succ]
   simp only [entsF, if_neg hs]
   exact entsF_next tag t ht ss (i + 1) e r h
theorem ents_next {ss : List (Int × Int)} {tag t : Int} (ht : t ≠ tag) {e : Int × Int} {r : List (Int × Int)} (h : ents ss tag = e :: r) : ents (put1 t ss e) tag = r := by
 have := entsF_next tag t ht ss 0 e r h
 unfold ents put1; simpa using this
theorem put1_length (t : Int) (ss : List (Int × Int)) (e : Int × Int) : (put1 t ss e).length = ss.length := by simp [put1]
theorem tk_length (ss : List (Int × Int)) (j : Nat) : (tk ss j).length = ss.length := by
 unfold tk
 generalize (ents ss 0).take j = l
 induction l generalizing ss with
 | nil => rfl
 | cons e l ih => rw [List.foldl_cons, ih, put1_length]
theorem foldl_ents (t : Int) (ht : t ≠ 0) : ∀ (j : Nat) (ss : List (Int × Int)), ents (((ents ss 0).take j).foldl (put1 t) ss) 0 = (ents ss 0).drop j
 | 0, ss => by simp
 | j + 1, ss => by
  cases h : ents ss 0 with
  | nil => simp [h]
  | cons e r =>
   have h2 := ents_next ht h
   have h3 := foldl_ents t ht j (put1 t ss e)
   rw [h2] at h3
   simpa using h3
theorem tk_ents (ss : List (Int × Int)) (j : Nat) : ents (tk ss j) 0 = (ents ss 0).drop j := foldl_ents 1 (by omega) j ss
theorem tk_succ (ss : List (Int × Int)) (j : Nat) (hj : j < (ents ss 0).length) : tk ss (j + 1) = put1 1 (tk ss j) (ents ss 0)[j] := by
 unfold tk
 rw [List.take_succ_eq_append_getElem hj, List.foldl_append]; rfl
def retS : List (Int × Int) → List (Int × Int) → Option (List (Int × Int))
 | ss, [] => some ss
 | ss, e :: l => if meantB ss e = true ∧ tagOf ss e = 1 then retS (put1 2 ss e) l else none
def givS : List (Int × Int) → List (Int × Int) → Except Int (List (Int × Int))
 | ss, [] => .ok ss
 | ss, e :: l => if meantB ss e = true ∧ tagOf ss e ≠ 0 then (if e.2 < 1099511627775 then givS (ss.set e.1.toNat (0, e.2 + 1)) l else .error 6) else .error 4
theorem meantB_out {ss : List (Int × Int)} {e : Int × Int} (h : meantB ss e = true) : ∃ k : Nat, e.1 = (k : Int) ∧ k < ss.length ∧ (ss.getD k (0, 0)).2 = e.2 := by
 simp only [meantB, Bool.and_eq_true, decide_eq_true_eq] at h
 obtain ⟨⟨h0, h1⟩, h2⟩ := h
 obtain ⟨k, hk⟩ := Int.eq_ofNat_of_zero_le h0
 refine ⟨k, hk, by omega, ?_⟩
 rw [hk] at h2
 simpa using h2
theorem arOk_out {ss : List (Int × Int)} (h : arOk ss = true) : 2 ≤ ss.length ∧ ss.length ≤ 128 ∧ ∀ s ∈ ss, slabOk s = true := by
 simp only [arOk, Bool.and_eq_true, decide_eq_true_eq, List.all_eq_true] at h
 exact ⟨h.1.1, h.1.2, h.2⟩
theorem arOk_set {ss : List (Int × Int)} (h : arOk ss = true) (k : Nat) (s : Int × Int) (hs : slabOk s = true) : arOk (ss.set k s) = true := by
 obtain ⟨h1, h2, h3⟩ := arOk_out h
 simp only [arOk, Bool.and_eq_true, decide_eq_true_eq, List.all_eq_true, List.length_set]
 refine ⟨⟨h1, h2⟩, fun x hx => ?_⟩
 rcases List.mem_or_eq_of_mem_set hx with hx | rfl
 · exact h3 x hx
 · exact hs
theorem arOk_at {ss : List (Int × Int)} (h : arOk ss = true) {k : Nat} (hk : k < ss.length) : slabOk (ss.getD k (0, 0)) = true := by
 rw [List.getD_eq_getElem?_getD, List.getElem?_eq_getElem hk]
 exact (arOk_out h).2.2 _ (List.getElem_mem hk)
theorem slabOk_out {s : Int × Int} (h : slabOk s = true) : 0 ≤ s.1 ∧ s.1 ≤ 2 ∧ s.2 ≤ 1099511627775 := by simpa [slabOk] using h
theorem slabOk_mk {t g : Int} (h0 : 0 ≤ t) (h1 : t ≤ 2) (h2 : g ≤ 1099511627775) : slabOk (t, g) = true := by simp [slabOk, h0, h1, h2]
theorem arOk_giv : ∀ (l ss : List (Int × Int)) (out : List (Int × Int)), arOk ss = true → givS ss l = .ok out → arOk out = true
 | [], ss, out, h, hr => by simp [givS] at hr; subst hr; exact h
 | e :: l, ss, out, h, hr => by
  simp only [givS] at hr
  by_cases hc : meantB ss e = true ∧ tagOf ss e ≠ 0
  ·
   rw [if_pos hc] at hr
   by_cases hg : e.2 < 1099511627775
   ·
    rw [if_pos hg] at hr
    exact arOk_giv l _ out (arOk_set h _ _ (slabOk_mk (by omega) (by omega) (by omega))) hr
   · rw [if_neg hg] at hr; cases hr
  · rw [if_neg hc] at hr; cases hr
def withL (xs : List (Int × Int)) (k : Int) (s : Int × Int) : List (Int × Int) := xs.mapIdx fun i x => if (i : Int) = k then s else x
theorem withL_snoc (xs : List (Int × Int)) (k : Int) (s : Int × Int) (j : Nat) (hj : j < xs.length) : withL (xs.take (j + 1)) k s = withL (xs.take j) k s ++ [if (j : Int) = k then s else xs[j]] := by
 rw [List.take_succ_eq_append_getElem hj]
 unfold withL
 rw [List.mapIdx_concat]
 have hl : (xs.take j).length = j := by rw [List.length_take]; omega
 rw [hl]
theorem withL_set (xs : List (Int × Int)) (k : Nat) (s : Int × Int) : withL xs (k : Int) s = xs.set k s := by
 apply List.ext_getElem?
 intro i
 simp only [withL, List.getElem?_mapIdx, List.getElem?_set]
 by_cases h : i < xs.length
 ·
  simp [h]
  by_cases hk : k = i
  · subst hk; simp [h]
  ·
   have : ¬ (i : Int) = k := by omega
   simp [hk, this]
 ·
  simp [h]
  intro hk; omega
end Go.Proofs.YtkicidopjihjmaaGreat
namespace Go.Proofs.YtkicidopjihjmaaGreat
open Go Go.RowKit
attribute [local go_sem] via_cell via_frozen
def errX (k : Int) : List PanicEntry := [{ v := .iface 44 (.int .i64 k), recovered := false }]
theorem need_ok (k : Int) (W : World) : Calls Tryz.prog 130 #[.bool true, .int .i64 k] W fun e W' => e = .returned (.tuple #[]) ∧ W = W' := by
 go_enter Tryz.func130, Tryz.ntmps130
 go_wp2
 go_end0
 exact ⟨rfl, rfl⟩
theorem need_no (k : Int) (W : World) : Calls Tryz.prog 130 #[.bool false, .int .i64 k] W fun e W' => e = .panicked (errX k) ∧ W = W' := by
 go_enter Tryz.func130, Tryz.ntmps130
 go_wp2
 exact ⟨rfl, rfl, rfl⟩
theorem right_any (t g : Int) (W : World) (r : Bool) (hr : slabOk (t, g) = r) : Calls Tryz.prog 88 #[.agg #[.int .i64 t, .int .u64 g]] W fun e W' => e = .returned (.bool r) ∧ Below W.heap.size W W' := by
 have HR := Hi hr
 clear hr
 by_cases h0 : 0 ≤ t
 ·
  by_cases h1 : t ≤ 2
  ·
   obtain ⟨b, hb⟩ : ∃ b, decide (g ≤ 1099511627775) = b := ⟨_, rfl⟩
   go_enter Tryz.func88, Tryz.ntmps88
   go_wp2
   go_ret
   exact ⟨ret_bool (by rw [← HR.out]; simp [slabOk, h0, h1, ← hb]), (Below.refl _ _).alloc (Nat.le_refl _) _⟩
  ·
   have h1' : decide (t ≤ 2) = false := by simp; omega
   go_enter Tryz.func88, Tryz.ntmps88
   go_wp2
   go_ret
   exact ⟨ret_bool (by rw [← HR.out]; simp [slabOk]; omega), (Below.refl _ _).alloc (Nat.le_refl _) _⟩
 ·
  have h0' : decide (0 ≤ t) = false := by simp; omega
  go_enter Tryz.func88, Tryz.ntmps88
  go_wp2
  go_ret
  exact ⟨ret_bool (by rw [← HR.out]; simp [slabOk]; omega), (Below.refl _ _).alloc (Nat.le_refl _) _⟩
theorem all1_any (gb : Nat) (t g : Int) (W : World) (hc : W.cell? ⟨gb, 0, none⟩ = some (.func (.func 88) #[] #[])) (hgb : gb < W.heap.size) :
  Calls Tryz.prog 120 #[.agg #[.int .i64 t, .int .u64 g], .pointer (some ⟨gb, 0, none⟩)] W fun e W' => e = .returned (.bool (!slabOk (t, g))) ∧ Below W.heap.size W W' := by
 obtain ⟨r, hr⟩ : ∃ r, slabOk (t, g) = r := ⟨_, rfl⟩
 have HR := Hi (fun w => right_any t g w r hr)
 rw [hr]
 clear hr
 go_enter Tryz.func120, Tryz.ntmps120
 go_wp2_with fail
 refine (HR.out _).mono ?_
 rintro e w1 ⟨rfl, hb⟩
 go_wp2_with fail
 go_ret
 exact ⟨rfl, ((Below.refl _ _).alloc (Nat.le_refl _) _).trans (hb.mono (by simp))⟩
theorem all_any (B : Nat) (A : Option Addr) (c : Nat) (xs : List (Int × Int)) (W : World) (h1 : Rd W B 2 A xs.length (Cs encE xs)) (hB1 : B ≤ W.heap.size) (hl1 : xs.length ≤ 4096) :
  Calls Tryz.prog 89 #[.slice A xs.length c, .func (.func 88) #[] #[]] W fun e W' => e = .returned (.bool (xs.all slabOk)) ∧ Below W.heap.size W W' := by
 have hbn := ba W (.cells #[.func (.func 88) #[] #[]] 129)
 have hrow : RowAt (W.alloc (.cells #[.func (.func 88) #[] #[]] 129)) W.heap.size 129 #[.func (.func 88) #[] #[]] := RowAt.new _ _ _
 have HC := Hi (ContainsFS B A c 120 #[.pointer (some ⟨W.heap.size, 0, none⟩)] (enters_of Tryz.func120 (by kernel_rfl) rfl) (fun s => !slabOk s) xs (W.alloc (.cells #[.func (.func 88) #[] #[]] 129)) (h1.below (hbn.mono hB1)) (by simp; omega) hl1
  (fun w x hw hx => all1_any W.heap.size x.1 x.2 w ((hrow.below hw).cell 0) (hrow.below hw).lt))
 clear hrow hbn
 go_enter Tryz.func89, Tryz.ntmps89
 go_wp2_with fail
 refine HC.out.mono ?_
 rintro e w1 ⟨rfl, hb⟩
 go_wp2_with fail
 go_ret
 refine ⟨ret_bool ?_, ((Below.refl _ _).alloc (Nat.le_refl _) _).trans (hb.mono (by simp))⟩
 rw [List.all_eq_not_any_not]
theorem check_any (B : Nat) (A : Option Addr) (c n : Nat) (xs : List (Int × Int)) (W : World) (h1 : Rd W B 2 A n (Cs encE xs)) (hx : xs.length = n) (hB1 : B ≤ W.heap.size) (k : Int) (hk : chk xs = k) (hl : n ≤ 4611686018427387904) :
  Calls Tryz.prog 53 #[.agg #[.slice A n c]] W fun e W' => e = .returned (.int .i64 k) ∧ Below W.heap.size W W' := by
 subst hx
 have HK := Hi hk
 have hbn := ba W (.cells #[.slice A xs.length c] 24)
 clear hk
 by_cases h2 : 2 ≤ xs.length
 ·
  by_cases h3 : xs.length ≤ 128
  ·
   have HC := Hi (all_any B A c xs (W.alloc (.cells #[.slice A xs.length c] 24)) (h1.below (hbn.mono hB1)) (by simp; omega) (by omega))
   obtain ⟨r, hr⟩ : ∃ r, xs.all slabOk = r := ⟨_, rfl⟩
   rw [hr] at HC
   have HR := Hi hr
   clear hr
   have HB := Hi hbn
   clear hbn
   go_enter Tryz.func53, Tryz.ntmps53
   go_wp2_with fail
   refine HC.out.mono ?_
   rintro e w1 ⟨rfl, hb⟩
   cases r
   ·
    go_wp2_with fail
    go_ret
    exact ⟨ret_int (by rw [← HK.out]; simp [chk, arOk, HR.out]), HB.out.trans (hb.mono HB.out.size)⟩
   ·
    go_wp2_with fail
    go_ret
    exact ⟨ret_int (by rw [← HK.out]; simp [chk, arOk, HR.out, h2, h3]), HB.out.trans (hb.mono HB.out.size)⟩
  ·
   have h3' : ¬ ((xs.length : Int) ≤ 128) := by omega
   go_enter Tryz.func53, Tryz.ntmps53
   go_wp2_with fail
   go_ret
   exact ⟨ret_int (by rw [← HK.out]; simp [chk, arOk, h3]), hbn⟩
 ·
  go_enter Tryz.func53, Tryz.ntmps53
  go_wp2_with fail
  go_ret
  exact ⟨ret_int (by rw [← HK.out]; simp [chk, arOk, h2]), hbn⟩
theorem meant_any (B : Nat) (A : Option Addr) (c n : Nat) (s g : Int) (xs : List (Int × Int)) (W : World) (h1 : Rd W B 2 A n (Cs encE xs)) (hx : xs.length = n) (hB1 : B ≤ W.heap.size) (hl : n ≤ 4611686018427387904) (r : Bool) (hr : meantB xs (s, g) = r) :
  Calls Tryz.prog 61 #[.agg #[.slice A n c], .agg #[.int .i64 s, .int .u64 g]] W fun e W' => e = .returned (.bool r) ∧ Below W.heap.size W W' := by
 subst hx
 have HR := Hi hr
 clear hr
 have HB := Hi ((((Below.refl W.heap.size W).alloc (Nat.le_refl _) (.cells #[.slice A xs.length c] 24))).alloc (by simp) (.cells #[.int .i64 s, .int .u64 g] 41))
 by_cases h0 : 0 ≤ s
 ·
  obtain ⟨k, rfl⟩ := Int.eq_ofNat_of_zero_le h0
  by_cases hlt : k < xs.length
  ·
   obtain ⟨b1, o1, rfl, hb1, hc1⟩ := h1.elem encE_len hlt
   have hd10 := hc1 0 _ (by omega) rfl
   have hd11 := hc1 1 _ (by omega) rfl
   simp only [Nat.add_zero] at hd10
   clear hc1
   have HG := Hi (show xs.getD k (0, 0) = xs[k] by rw [List.getD_eq_getElem?_getD, List.getElem?_eq_getElem hlt]; rfl)
   generalize xs[k] = x at *
   have hkI : (k : Int) < (xs.length : Int) := by omega
   have hbb : b1 < W.heap.size := by omega
   go_enter Tryz.func61, Tryz.ntmps61
   go_wp2_with fail
   go_quiet (fail)
   go_wp2_with fail
   go_ret
   refine ⟨ret_bool ?_, below_drewN HB.out _⟩
   rw [← HR.out]
   simp only [meantB, Int.toNat_natCast, HG.out]
   by_cases hg : x.2 = g <;> simp [hg, hlt]
  ·
   have hkI : decide ((k : Int) < (xs.length : Int)) = false := by simp; omega
   go_enter Tryz.func61, Tryz.ntmps61
   go_wp2_with fail
   go_quiet (fail)
   go_wp2_with fail
   go_ret
   exact ⟨ret_bool (by rw [← HR.out]; simp [meantB, hlt]), below_drewN HB.out _⟩
 ·
  have h0' : decide (0 ≤ s) = false := by simp; omega
  go_enter Tryz.func61, Tryz.ntmps61
  go_wp2_with fail
  go_quiet (fail)
  go_wp2_with fail
  go_ret
  exact ⟨ret_bool (by rw [← HR.out]; simp [meantB]; omega), below_drewN HB.out _⟩
theorem rmeant_any (B : Nat) (A : Option Addr) (c n : Nat) (s g : Int) (xs : List (Int × Int)) (W : World) (h1 : Rd W B 2 A n (Cs encE xs)) (hx : xs.length = n) (hB1 : B ≤ W.heap.size) (hl : n ≤ 4611686018427387904) (r : Bool) (hr : meantB xs (s, g) = r) :
  Calls Tryz.prog 145 #[.agg #[.slice A n c], .agg #[.int .i64 s, .int .u64 g]] W fun e W' => e = .returned (.bool r) ∧ Below W.heap.size W W' := by
 subst hx
 have HR := Hi hr
 clear hr
 have HB := Hi ((((Below.refl W.heap.size W).alloc (Nat.le_refl _) (.cells #[.slice A xs.length c] 24))).alloc (by simp) (.cells #[.int .i64 s, .int .u64 g] 41))
 by_cases h0 : 0 ≤ s
 ·
  obtain ⟨k, rfl⟩ := Int.eq_ofNat_of_zero_le h0
  by_cases hlt : k < xs.length
  ·
   obtain ⟨b1, o1, rfl, hb1, hc1⟩ := h1.elem encE_len hlt
   have hd10 := hc1 0 _ (by omega) rfl
   have hd11 := hc1 1 _ (by omega) rfl
   simp only [Nat.add_zero] at hd10
   clear hc1
   have HG := Hi (show xs.getD k (0, 0) = xs[k] by rw [List.getD_eq_getElem?_getD, List.getElem?_eq_getElem hlt]; rfl)
   generalize xs[k] = x at *
   have hkI : (k : Int) < (xs.length : Int) := by omega
   have hbb : b1 < W.heap.size := by omega
   go_enter Tryz.func145, Tryz.ntmps145
   go_wp2_with fail
   go_quiet (fail)
   go_wp2_with fail
   go_ret
   refine ⟨ret_bool ?_, below_drewN HB.out _⟩
   rw [← HR.out]
   simp only [meantB, Int.toNat_natCast, HG.out]
   by_cases hg : x.2 = g <;> simp [hg, hlt]
  ·
   have hkI : decide ((k : Int) < (xs.length : Int)) = false := by simp; omega
   go_enter Tryz.func145, Tryz.ntmps145
   go_wp2_with fail
   go_quiet (fail)
   go_wp2_with fail
   go_ret
   exact ⟨ret_bool (by rw [← HR.out]; simp [meantB, hlt]), below_drewN HB.out _⟩
 ·
  have h0' : decide (0 ≤ s) = false := by simp; omega
  go_enter Tryz.func145, Tryz.ntmps145
  go_wp2_with fail
  go_quiet (fail)
  go_wp2_with fail
  go_ret
  exact ⟨ret_bool (by rw [← HR.out]; simp [meantB]; omega), below_drewN HB.out _⟩
theorem rmany_any (n : Int) (W : World) (r : Bool) (hr : decide (2 ≤ n ∧ n ≤ 128) = r) : Calls Tryz.prog 32 #[.int .i64 n] W fun e W' => e = .returned (.bool r) ∧ W = W' := by
 have HR := Hi hr
 clear hr
 by_cases h0 : 2 ≤ n
 ·
  obtain ⟨b, hb⟩ : ∃ b, decide (n ≤ 128) = b := ⟨_, rfl⟩
  go_enter Tryz.func32, Tryz.ntmps32
  go_wp2
  go_ret
  exact ⟨ret_bool (by rw [← HR.out]; simp [h0, ← hb]), rfl⟩
 ·
  have h0' : decide (2 ≤ n) = false := by simp; omega
  go_enter Tryz.func32, Tryz.ntmps32
  go_wp2
  go_ret
  exact ⟨ret_bool (by rw [← HR.out]; simp; omega), rfl⟩
theorem rright_any (B : Nat) (A : Option Addr) (c n : Nat) (xs : List (Int × Int)) (W : World) (h1 : Rd W B 2 A n (Cs encE xs)) (hx : xs.length = n) (hB1 : B ≤ W.heap.size) (r : Bool) (hr : arOk xs = r) (hl : n ≤ 4096) :
  Calls Tryz.prog 41 #[.agg #[.slice A n c]] W fun e W' => e = .returned (.bool r) ∧ Below W.heap.size W W' := by
 subst hx
 have HR := Hi hr
 have HM := Hi (fun w => rmany_any xs.length w (decide (2 ≤ xs.length ∧ xs.length ≤ 128)) (by congr 1; simp; omega))
 have hb0 := ba W (.cells #[.slice A xs.length c] 24)
 have hrow : RowAt (W.alloc (.cells #[.slice A xs.length c] 24)) W.heap.size 24 #[.slice A xs.length c] := RowAt.new _ _ _
 have HROW := Hi hrow
 have HB0 := Hi hb0
 clear hr hrow hb0
 go_enter Tryz.func41, Tryz.ntmps41
 go_wp2_with fail
 go_loopw [8] (fun i wr => ∃ k : Nat, k ≤ xs.length ∧ i = .int .i64 k ∧ (xs.take k).all slabOk = true ∧ Below (W.alloc (.cells #[.slice A xs.length c] 24)).heap.size (W.alloc (.cells #[.slice A xs.length c] 24)) wr) (fun i _ => xs.length - (intOf i).toNat)
 case atStart => exact ⟨0, Nat.zero_le _, rfl, rfl, Below.refl _ _⟩
 case round =>
  obtain ⟨k, hk, rfl, hpre, hbw⟩ := hrel
  have HP := Hi hpre
  have HROW := Hi (HROW.out.below hbw)
  have HBW := bt HB0 hbw
  have HBK := Hi hbw
  have q0 := HROW.out.cell 0
  have hq := HROW.out.lt
  simp only [List.getElem?_toArray, List.getElem?_cons_succ, List.getElem?_cons_zero] at q0
  clear hpre hbw
  by_cases hlt : k < xs.length
  ·
   obtain ⟨b1, o1, rfl, hb1, hc1⟩ := (h1.below (HBW.out.mono hB1)).elem encE_len hlt
   have hd10 := hc1 0 _ (by omega) rfl
   have hd11 := hc1 1 _ (by omega) rfl
   simp only [Nat.add_zero] at hd10
   clear hc1
   have hb1w : b1 < wr.heap.size := by omega
   have HX := Hi (show xs.take (k + 1) = xs.take k ++ [xs[k]] from List.take_succ_eq_append_getElem hlt)
   have HM := Hi (List.getElem_mem hlt)
   generalize xs[k] = x at *
   obtain ⟨t, g⟩ := x
   dsimp only at hd10 hd11
   have hno : slabOk (t, g) = false → arOk xs = false := fun h => by
    have : xs.all slabOk = false := by rw [List.all_eq_false]; exact ⟨_, HM.out, by rw [h]; simp⟩
    simp [arOk, this]
   have HNO := Hi hno
   have hyes : slabOk (t, g) = true → (xs.take (k + 1)).all slabOk = true := fun h => by rw [HX.out, List.all_append, HP.out]; simp [h]
   have HYES := Hi hyes
   have HBA : Hid (Below (W.alloc (.cells #[.slice (some ⟨b1, o1, none⟩) xs.length c] 24)).heap.size (W.alloc (.cells #[.slice (some ⟨b1, o1, none⟩) xs.length c] 24)) (wr.alloc (.cells #[.int .i64 t, .int .u64 g] 84))) := Hi (HBK.out.alloc HBK.out.size _)
   have HBR : Hid (Below W.heap.size W (wr.alloc (.cells #[.int .i64 t, .int .u64 g] 84))) := Hi (HBW.out.alloc HBW.out.size _)
   clear hno hyes
   by_cases c0 : t < 0
   ·
    go_wp2_with fail
    go_ret
    exact ⟨ret_bool (by rw [← HR.out, HNO.out (by simp [slabOk]; omega)]), HBR.out⟩
   ·
    have c0' : decide (t < 0) = false := by simp; omega
    by_cases c1 : 2 < t
    ·
     go_wp2_with fail
     go_ret
     exact ⟨ret_bool (by rw [← HR.out, HNO.out (by simp [slabOk]; omega)]), HBR.out⟩
    ·
     have c1' : decide (2 < t) = false := by simp; omega
     by_cases c2 : 1099511627775 < g
     ·
      go_wp2_with fail
      go_ret
      exact ⟨ret_bool (by rw [← HR.out, HNO.out (by simp [slabOk]; omega)]), HBR.out⟩
     ·
      have c2' : decide (1099511627775 < g) = false := by simp; omega
      have HS := Hi (HYES.out (by simp [slabOk]; omega))
      go_wp2_with fail
      go_roundw
      case rel => exact ⟨k + 1, by omega, by go_num, HS.out, HBA.out⟩
      case measure => simp [intOf]; omega
  ·
   go_wp2_with fail
   refine (HM.out _).mono ?_
   rintro e w1 ⟨rfl, rfl⟩
   go_wp2_with fail
   go_ret
   have h := HP.out
   rw [List.take_of_length_le (by omega)] at h
   exact ⟨ret_bool (by rw [← HR.out]; simp [arOk, h]), HBW.out⟩
theorem rsame_any (A1 A2 : Option Addr) (c1 c2 n1 n2 : Nat) (xs ys : List (Int × Int)) (W : World) (h1 : Rd W W.heap.size 2 A1 n1 (Cs encE xs)) (h2 : Rd W W.heap.size 2 A2 n2 (Cs encE ys)) (hx : xs.length = n1) (hy : ys.length = n2)
  (hl1 : n1 ≤ 4096) (hl2 : n2 ≤ 4096) (r : Bool) (hr : decide (xs = ys) = r) :
  Calls Tryz.prog 50 #[.agg #[.slice A1 n1 c1], .agg #[.slice A2 n2 c2]] W fun e W' => e = .returned (.bool r) ∧ Below W.heap.size W W' := by
 subst hx hy
 have HRR := Hi hr
 clear hr
 have hb0 := ((Below.refl W.heap.size W).alloc (Nat.le_refl _) (.cells #[.slice A1 xs.length c1] 24)).alloc (by simp) (.cells #[.slice A2 ys.length c2] 24)
 by_cases hlen : xs.length = ys.length
 ·
  have ht : ((xs.length : Int) != (ys.length : Int)) = false := by rw [bne_eq_false_iff_eq]; omega
  have HL := Hi hlen
  clear hlen
  go_enter Tryz.func50, Tryz.ntmps50
  go_wp2_with fail
  have hr2 : RowAt ((W.alloc (.cells #[.slice A1 xs.length c1] 24)).alloc (.cells #[.slice A2 ys.length c2] 24)) (W.heap.size + 1) 24 #[.slice A2 ys.length c2] := by
   have h := RowAt.new (W.alloc (.cells #[.slice A1 xs.length c1] 24)) 24 #[.slice A2 ys.length c2]
   rw [World.size_alloc] at h; exact h
  generalize (W.alloc _).alloc _ = w0 at *
  have HB0 := Hi hb0
  have HR2 := Hi hr2
  have hs0 := hb0.size
  clear hb0 hr2
  go_loopw [17] (fun i wr => ∃ k : Nat, k ≤ xs.length ∧ i = .int .i64 k ∧ xs.take k = ys.take k ∧ Below w0.heap.size w0 wr) (fun i _ => xs.length - (intOf i).toNat)
  case atStart => exact ⟨0, Nat.zero_le _, rfl, rfl, Below.refl _ _⟩
  case round =>
   obtain ⟨k, hk, rfl, hpre, hbw⟩ := hrel
   have HP := Hi hpre
   have hbW := HB0.out.trans (hbw.mono hs0)
   have HBW := Hi hbw
   have e1 := (HR2.out.below hbw).cell 0
   simp only [List.getElem?_toArray, List.getElem?_cons_succ, List.getElem?_cons_zero] at e1
   have hsr : W.heap.size + 1 < wr.heap.size := (HR2.out.below hbw).lt
   clear hpre hbw
   by_cases hlt : k < xs.length
   ·
    have hlt2 : k < ys.length := by have := HL.out; omega
    obtain ⟨b1, o1, rfl, hb1, hc1⟩ := (h1.below hbW).elem encE_len hlt
    obtain ⟨b2, o2, rfl, hb2, hc2⟩ := (h2.below hbW).elem encE_len hlt2
    have hd10 := hc1 0 _ (by omega) rfl
    have hd11 := hc1 1 _ (by omega) rfl
    have hd20 := hc2 0 _ (by omega) rfl
    have hd21 := hc2 1 _ (by omega) rfl
    simp only [Nat.add_zero] at hd10 hd20
    clear hc1 hc2
    have hi2 : (k : Int) < (ys.length : Int) := by omega
    have hbl1 : b1 < wr.heap.size := by omega
    have hbl2 : b2 < wr.heap.size := by omega
    generalize hx : xs[k] = x at *
    generalize hy : ys[k] = y at *
    have HX := Hi hx
    have HY := Hi hy
    clear hx hy
    by_cases hxy : x = y
    ·
     subst hxy
     have hne := fun w => neqS w x x true (by simp)
     go_wp2_with fail
     go_quiet (fail)
     go_wp2_with fail
     go_roundw
     case rel => exact ⟨k + 1, by omega, by go_num, by rw [List.take_succ_eq_append_getElem hlt, List.take_succ_eq_append_getElem hlt2, HP.out, HX.out, HY.out], below_drewN (HBW.out.alloc HBW.out.size _) _⟩
     case measure => simp [intOf]; omega
    ·
     have hne := fun w => neqS w x y false (by simpa using hxy)
     go_wp2_with fail
     go_quiet (fail)
     go_wp2_with fail
     go_ret
     exact ⟨ret_bool (by rw [← HRR.out]; simp; intro h; apply hxy; rw [← HX.out, ← HY.out]; simp [h]), hbW.trans (below_drewN ((Below.refl _ _).alloc (by omega) _) _)⟩
   ·
    go_wp2_with fail
    go_ret
    have he : xs = ys := by have h := HP.out; rw [List.take_of_length_le (by omega), List.take_of_length_le (by have := HL.out; omega)] at h; exact h
    exact ⟨ret_bool (by rw [← HRR.out]; simp [he]), hbW⟩
 ·
  have ht : ((xs.length : Int) != (ys.length : Int)) = true := by rw [bne_iff_ne]; omega
  go_enter Tryz.func50, Tryz.ntmps50
  go_wp2
  go_ret
  exact ⟨ret_bool (by rw [← HRR.out]; simp; intro h; exact hlen (by rw [h])), hb0⟩
theorem Cs_rep (n : Nat) : (madeCells (Value.agg #[.int .i64 0, .int .u64 0]).cells (n * 2)).toList = Cs encE (List.replicate n (0, 0)) := by
 apply List.ext_getElem?
 intro j
 have hl : (Cs encE (List.replicate n (0, 0))).length = n * 2 := by rw [Cs_length encE_len, List.length_replicate]
 by_cases hj : j < n * 2
 ·
  have h1 : j = j / 2 * 2 + j % 2 := by omega
  have h2 : j / 2 < (List.replicate n ((0 : Int), (0 : Int))).length := by rw [List.length_replicate]; omega
  have h3 : (List.replicate n ((0 : Int), (0 : Int)))[j / 2] = (0, 0) := by simp
  have h4 := Cs_at encE_len (List.replicate n (0, 0)) (j / 2) (j % 2) h2 (by omega)
  rw [← h1, h3] at h4
  rw [h4]
  have h5 : j % 2 = 0 ∨ j % 2 = 1 := by omega
  rcases h5 with h5 | h5 <;> simp [madeCells, hj, h5, Value.cells, encE]
 · rw [List.getElem?_eq_none (l := Cs encE (List.replicate n (0, 0))) (by rw [hl]; omega), List.getElem?_eq_none (by simp [madeCells]; omega)]
theorem new_no (n : Int) (W : World) (h : ¬ (2 ≤ n ∧ n ≤ 128)) :
  Calls Tryz.prog 67 #[.int .i64 n] W fun e W' => e = .returned (.tuple #[.agg #[.slice none 0 0], .int .i64 2]) ∧ Below W.heap.size W W' := by
 by_cases h0 : n < 2
 focus
  skip
 rotate_left
 focus
  have h0' : decide (n < 2) = false := by simp; omega
  have h1 : 128 < n := by omega
 rotate_left
 all_goals
  go_enter Tryz.func67, Tryz.ntmps67
  go_wp2
  refine bodyPost_ret (v := .tuple #[.agg #[.slice none 0 0], .int .i64 2]) (by simp [results, Tryz.results67, go_sem]) rfl ⟨rfl, ?_⟩
  exact (Below.refl _ _).alloc (Nat.le_refl _) _
theorem with_any (A : Option Addr) (c n : Nat) (k t g : Int) (xs : List (Int × Int)) (W : World) (h : Rd W W.heap.size 2 A n (Cs encE xs)) (hx : xs.length = n) (hn : n ≤ 4096) :
  Calls Tryz.prog 144 #[.agg #[.slice A n c], .int .i64 k, .agg #[.int .i64 t, .int .u64 g]] W fun e W' => ∃ A' c', e = .returned (.agg #[.slice A' n c']) ∧ n ≤ c' ∧ c' ≤ 9223372036854775807 ∧ Rd W' W'.heap.size 2 A' n (Cs encE (withL xs k (t, g))) ∧ (∀ p, A' = some p → W.heap.size ≤ p.block) ∧ Below W.heap.size W W' := by
 subst hx
 go_enter Tryz.func144, Tryz.ntmps144
 go_wp2_with fail
 obtain ⟨w1, hw1⟩ : ∃ w1, W.alloc (.cells #[.slice A xs.length c] 24) = w1 := ⟨_, rfl⟩
 obtain ⟨w2, hw2⟩ : ∃ w2, w1.alloc (.cells #[.int .i64 t, .int .u64 g] 84) = w2 := ⟨_, rfl⟩
 obtain ⟨w3, hw3⟩ : ∃ w3, w2.alloc (.cells #[.slice none 0 0] 24) = w3 := ⟨_, rfl⟩
 obtain ⟨w4, hw4⟩ : ∃ w4, w3.alloc (.cells #[.slice none 0 0] 24) = w4 := ⟨_, rfl⟩
 have s1 : w1.heap.size = W.heap.size + 1 := by rw [← hw1]; simp
 have s2 : w2.heap.size = W.heap.size + 1 + 1 := by rw [← hw2]; simp [s1]
 have s3 : w3.heap.size = W.heap.size + 1 + 1 + 1 := by rw [← hw3]; simp [s2]
 have s4 : w4.heap.size = W.heap.size + 1 + 1 + 1 + 1 := by rw [← hw4]; simp [s3]
 have b1 := baw hw1
 have b2 := baw hw2
 have b3 := baw hw3
 have b4 := baw hw4
 have r1 : RowAt w4 W.heap.size 24 #[.slice A xs.length c] := by have h := RowAt.new W 24 #[.slice A xs.length c]; rw [hw1] at h; exact ((h.below b2).below b3).below b4
 have r2 : RowAt w4 (W.heap.size + 1) 84 #[.int .i64 t, .int .u64 g] := by have h := RowAt.new w1 84 #[.int .i64 t, .int .u64 g]; rw [hw2, s1] at h; exact (h.below b3).below b4
 have r3 : RowAt w4 (W.heap.size + 1 + 1) 24 #[.slice none 0 0] := by have h := RowAt.new w2 24 #[.slice none 0 0]; rw [hw3, s2] at h; exact h.below b4
 have r4 : RowAt w4 (W.heap.size + 1 + 1 + 1) 24 #[.slice none 0 0] := by have h := RowAt.new w3 24 #[.slice none 0 0]; rw [hw4, s3] at h; exact h
 have hb0 : Below W.heap.size W w4 := ((b1.trans (b2.mono b1.size)).trans (b3.mono (by omega))).trans (b4.mono (by omega))
 rw [hw1, hw2, hw3, hw4]
 clear hw1 hw2 hw3 hw4 b1 b2 b3 b4 s1 s2 s3 w1 w2 w3
 have H0 := Hi hb0
 have H1 := Hi r1
 have H2 := Hi r2
 have H3 := Hi r3
 have H4 := Hi r4
 clear hb0 r1 r2 r3 r4
 go_loopw [13] (fun i wr => ∃ j : Nat, j ≤ xs.length ∧ i = .int .i64 j ∧ RowAt wr W.heap.size 24 #[.slice A xs.length c] ∧ RowAt wr (W.heap.size + 1) 84 #[.int .i64 t, .int .u64 g] ∧ RowAt wr (W.heap.size + 1 + 1) 24 #[.slice none 0 0] ∧ (∃ v, RowBox wr (W.heap.size + 1 + 1 + 1) 24 (W.heap.size + 4) 84 2 j v (Cs encE (withL (xs.take j) k (t, g)))) ∧ Below W.heap.size W wr) (fun i _ => xs.length - (intOf i).toNat)
 case atStart => exact ⟨0, Nat.zero_le _, rfl, H1.out, H2.out, H3.out, ⟨_, H4.out, World.ownsRow_nil _ _ _ _, by omega⟩, H0.out⟩
 case round =>
  obtain ⟨j, hj, rfl, hr1, hr2, hr3, ⟨v, hbox⟩, hbw⟩ := hrel
  have HB := Hi hbw
  have HX := Hi hbox
  have R1 := Hi hr1
  have R2 := Hi hr2
  have R3 := Hi hr3
  have hsz : W.heap.size + 1 + 1 + 1 < wr.heap.size := hbox.row.lt
  have hsz2 : W.heap.size + 1 < wr.heap.size := by omega
  have d1 := hbox.cell
  have x1 := row1 hr1
  have y0 := row20 hr2
  have y1 := row21 hr2
  clear hr1 hr2 hr3 hbox hbw
  by_cases hlt : j < xs.length
  ·
   obtain ⟨b1, o1, rfl, hb1, hc1⟩ := (h.below HB.out).elem encE_len hlt
   have hd10 := hc1 0 _ (by omega) rfl
   have hd11 := hc1 1 _ (by omega) rfl
   simp only [Nat.add_zero] at hd10
   clear hc1
   have hbl1 : b1 < wr.heap.size := by omega
   have HS := Hi (withL_snoc xs k (t, g) j hlt)
   generalize xs[j] = x at *
   obtain ⟨A3, c3, rfl, hc3, hcm3⟩ := own_form2 HX.out.own
   by_cases hjk : (j : Int) = k
   ·
    have hjb : ((j : Int) == k) = true := by simpa using hjk
    have hrn := Rd.new (wr.alloc (.cells #[.int .i64 t, .int .u64 g] 84)) #[.int .i64 t, .int .u64 g] 84 2 1 rfl
    rw [World.size_alloc] at hrn
    have HRN := Hi hrn
    have HJ := Hi hjk
    clear hrn hjk
    go_wp2_with (at_builtin; refine wpList_app elS rfl _ _ rfl rfl ((HX.out.own.alloc _).alloc _) rfl HRN.out (by simp [Value.oneCell']) (by omega) (by simp; omega) ?_; intro v2 w2 hown2 hb3 _ _; have HB4 := Hi ((((Below.refl (W.heap.size + 4) wr).alloc (by omega) (.cells #[.int .i64 t, .int .u64 g] 84)).alloc (by simp; omega) (.cells #[.int .i64 t, .int .u64 g] 84)).trans hb3); have HR4 := Hi (HX.out.row.belowB (by omega) HB4.out); obtain ⟨A2, c2, rfl, hc2, hcm2⟩ := own_form2 hown2; have HO4 := Hi hown2; have m1 := row1 HR4.out; have n1 := HR4.out.frozen 0; have l1 := HR4.out.lt; clear hown2 hb3)
    go_roundw
    case rel =>
     refine ⟨j + 1, by omega, by go_num, (R1.out.belowB (by omega) HB4.out).setNe (by omega), (R2.out.belowB (by omega) HB4.out).setNe (by omega), (R3.out.belowB (by omega) HB4.out).setNe (by omega), ⟨_, RowBox.store HR4.out (by omega) ?_⟩, (HB.out.trans (HB4.out.mono (by omega))).setCell (p := ⟨W.heap.size + 1 + 1 + 1, 0, none⟩) (by simp; omega) _⟩
     rw [HS.out, if_pos HJ.out, Cs_append]
     exact HO4.out
    case measure => simp [intOf]; omega
   ·
    have hjb : ((j : Int) == k) = false := by simpa using hjk
    have hrn := Rd.new (wr.alloc (.cells #[.int .i64 x.1, .int .u64 x.2] 84)) #[.int .i64 x.1, .int .u64 x.2] 84 2 1 rfl
    rw [World.size_alloc] at hrn
    have HRN := Hi hrn
    have HJ := Hi hjk
    clear hrn hjk
    go_wp2_with (at_builtin; refine wpList_app elS rfl _ _ rfl rfl ((HX.out.own.alloc _).alloc _) rfl HRN.out (by simp [Value.oneCell']) (by omega) (by simp; omega) ?_; intro v2 w2 hown2 hb3 _ _; have HB4 := Hi ((((Below.refl (W.heap.size + 4) wr).alloc (by omega) (.cells #[.int .i64 x.1, .int .u64 x.2] 84)).alloc (by simp; omega) (.cells #[.int .i64 x.1, .int .u64 x.2] 84)).trans hb3); have HR4 := Hi (HX.out.row.belowB (by omega) HB4.out); obtain ⟨A2, c2, rfl, hc2, hcm2⟩ := own_form2 hown2; have HO4 := Hi hown2; have m1 := row1 HR4.out; have n1 := HR4.out.frozen 0; have l1 := HR4.out.lt; clear hown2 hb3)
    go_roundw
    case rel =>
     refine ⟨j + 1, by omega, by go_num, (R1.out.belowB (by omega) HB4.out).setNe (by omega), (R2.out.belowB (by omega) HB4.out).setNe (by omega), (R3.out.belowB (by omega) HB4.out).setNe (by omega), ⟨_, RowBox.store HR4.out (by omega) ?_⟩, (HB.out.trans (HB4.out.mono (by omega))).setCell (p := ⟨W.heap.size + 1 + 1 + 1, 0, none⟩) (by simp; omega) _⟩
     rw [HS.out, if_neg HJ.out, Cs_append]
     exact HO4.out
    case measure => simp [intOf]; omega
  ·
   obtain rfl : j = xs.length := by omega
   obtain ⟨A3, c3, rfl, hc3, hcm3⟩ := own_form2 HX.out.own
   have z0 := row1 R3.out
   have z1 := R3.out.frozen 0
   have z2 : W.heap.size + 1 + 1 < wr.heap.size := by omega
   go_wp2_with fail
   refine bodyPost_ret (v := .agg #[.slice A3 xs.length c3]) (by simp [results, Tryz.results144, go_sem, z0, z2]) rfl ⟨A3, c3, rfl, hc3, hcm3, ?_, fun p hp => by have := own_fresh HX.out.own p hp; omega, HB.out.setCell (p := ⟨W.heap.size + 1 + 1, 0, none⟩) (by simp; omega) _⟩
   have h := HX.out.own
   rw [List.take_length] at h
   exact Rd.of_own (own_other h (fun j hj => heap_setCell_ne _ _ _ _ (by show j ≠ W.heap.size + 1 + 1; omega)))
theorem rents_any (A : Option Addr) (c n : Nat) (tag : Int) (xs : List (Int × Int)) (W : World) (h : Rd W W.heap.size 2 A n (Cs encE xs)) (hx : xs.length = n) (hn : n ≤ 4096) :
  Calls Tryz.prog 45 #[.agg #[.slice A n c], .int .i64 tag] W fun e W' => ∃ A' c', e = .returned (.slice A' (ents xs tag).length c') ∧ (ents xs tag).length ≤ c' ∧ c' ≤ 9223372036854775807 ∧ Rd W' W'.heap.size 2 A' (ents xs tag).length (Cs encE (ents xs tag)) ∧ (∀ p, A' = some p → W.heap.size ≤ p.block) ∧ Below W.heap.size W W' := by
 subst hx
 go_enter Tryz.func45, Tryz.ntmps45
 go_wp2_with fail
 have hb0 := ba W (.cells #[.slice A xs.length c] 24)
 have r1 : RowAt (W.alloc (.cells #[.slice A xs.length c] 24)) W.heap.size 24 #[.slice A xs.length c] := RowAt.new _ _ _
 have hs0 : (W.alloc (.cells #[.slice A xs.length c] 24)).heap.size = W.heap.size + 1 := by simp
 generalize (W.alloc (.cells #[.slice A xs.length c] 24)) = w0 at *
 have H0 := Hi hb0
 have H1 := Hi r1
 clear hb0 r1
 go_loopw [5, 11] (fun v i wr => ∃ j : Nat, j ≤ xs.length ∧ i = .int .i64 j ∧ RowAt wr W.heap.size 24 #[.slice A xs.length c] ∧ wr.ownsRow (W.heap.size + 1) 41 2 v (ents (xs.take j) tag).length (Cs encE (ents (xs.take j) tag)) ∧ Below W.heap.size W wr) (fun _ i _ => xs.length - (intOf i).toNat)
 case atStart => exact ⟨0, Nat.zero_le _, rfl, H1.out, World.ownsRow_nil _ _ _ _, H0.out⟩
 case round =>
  obtain ⟨j, hj, rfl, hr1, hown, hbw⟩ := hrel
  have HB := Hi hbw
  have HO := Hi hown
  have R1 := Hi hr1
  have hsz : W.heap.size < wr.heap.size := hr1.lt
  have x1 := row1 hr1
  clear hr1 hown hbw
  by_cases hlt : j < xs.length
  ·
   obtain ⟨b1, o1, rfl, hb1, hc1⟩ := (h.below HB.out).elem encE_len hlt
   have hd10 := hc1 0 _ (by omega) rfl
   have hd11 := hc1 1 _ (by omega) rfl
   simp only [Nat.add_zero] at hd10
   clear hc1
   have hbl1 : b1 < wr.heap.size := by omega
   have HS := Hi (ents_snoc xs tag j hlt)
   have hle := ents_length (xs.take j) tag
   have hlt2 : (xs.take j).length ≤ 4096 := by rw [List.length_take]; omega
   generalize xs[j] = x at *
   by_cases hjk : x.1 = tag
   ·
    have hjb : (x.1 == tag) = true := by simpa using hjk
    have hrn := Rd.new (wr.alloc (.cells #[.int .i64 x.1, .int .u64 x.2] 84)) #[.int .i64 (j : Int), .int .u64 x.2] 41 2 1 rfl
    rw [World.size_alloc] at hrn
    have HRN := Hi hrn
    have HJ := Hi hjk
    clear hrn hjk
    go_wp2_with (at_builtin; refine wpList_app elE rfl _ _ rfl rfl ((HO.out.alloc _).alloc _) rfl HRN.out (by simp [Value.oneCell']) (by omega) (by simp; omega) ?_; intro v2 w2 hown2 hb3 _ _; have HB4 := Hi ((((Below.refl (W.heap.size + 1) wr).alloc (by omega) (.cells #[.int .i64 x.1, .int .u64 x.2] 84)).alloc (by simp; omega) (.cells #[.int .i64 (j : Int), .int .u64 x.2] 41)).trans hb3); have HO4 := Hi hown2; clear hown2 hb3)
    go_roundw
    case rel =>
     refine ⟨j + 1, by omega, by go_num, R1.out.belowB (by omega) HB4.out, ?_, HB.out.trans (HB4.out.mono (by omega))⟩
     rw [HS.out, if_pos HJ.out, Cs_append, List.length_append]
     exact HO4.out
    case measure => simp [intOf]; omega
   ·
    have hjb : (x.1 == tag) = false := by simpa using hjk
    have HJ := Hi hjk
    clear hjk
    go_wp2_with fail
    go_roundw
    case rel =>
     refine ⟨j + 1, by omega, by go_num, R1.out.below ((Below.refl _ _).alloc (Nat.le_refl _) _), ?_, HB.out.alloc HB.out.size _⟩
     rw [HS.out, if_neg HJ.out, List.append_nil]
     exact HO.out.alloc _
    case measure => simp [intOf]; omega
  ·
   obtain rfl : j = xs.length := by omega
   have h := HO.out
   rw [List.take_length] at h
   obtain ⟨A3, c3, rfl, hc3, hcm3⟩ := own_form2 h
   have H := Hi (Rd.of_own h)
   have HFR := Hi (own_fresh h)
   clear h
   go_wp2_with fail
   go_ret
   exact ⟨A3, c3, rfl, hc3, hcm3, H.out, fun p hp => by have := HFR.out p hp; omega, HB.out⟩
theorem chk_no {xs : List (Int × Int)} (h : arOk xs = false) : chk xs = 210 := by simp [chk, h]
theorem chk_ok {xs : List (Int × Int)} (h : arOk xs = true) : chk xs = 0 := by simp [chk, h]
theorem tag_any (A : Option Addr) (c n : Nat) (s g : Int) (xs : List (Int × Int)) (W : World) (h : Rd W W.heap.size 2 A n (Cs encE xs)) (hx : xs.length = n) (hn : n ≤ 4096) (r : Bool) (hr : (arOk xs && meantB xs (s, g)) = r) (v : Int) (hv : (if r = true then tagOf xs (s, g) else 0) = v) :
  Calls Tryz.prog 27 #[.agg #[.slice A n c], .agg #[.int .i64 s, .int .u64 g]] W fun e W' => e = .returned (.tuple #[.int .i64 v, .bool r]) ∧ Below W.heap.size W W' := by
 obtain ⟨w1, hw1⟩ : ∃ w1, W.alloc (.cells #[.slice A n c] 24) = w1 := ⟨_, rfl⟩
 obtain ⟨w2, hw2⟩ : ∃ w2, w1.alloc (.cells #[.int .i64 s, .int .u64 g] 41) = w2 := ⟨_, rfl⟩
 have s1 : w1.heap.size = W.heap.size + 1 := by rw [← hw1]; simp
 have s2 : w2.heap.size = W.heap.size + 1 + 1 := by rw [← hw2]; simp [s1]
 have b1 := baw hw1
 have b2 := baw hw2
 have r1 : RowAt w2 W.heap.size 24 #[.slice A n c] := by have h := RowAt.new W 24 #[.slice A n c]; rw [hw1] at h; exact h.below b2
 have r2 : RowAt w2 (W.heap.size + 1) 41 #[.int .i64 s, .int .u64 g] := by have h := RowAt.new w1 41 #[.int .i64 s, .int .u64 g]; rw [hw2, s1] at h; exact h
 have hb0 : Below W.heap.size W w2 := b1.trans (b2.mono b1.size)
 have HC := Hi (check_any W.heap.size A c n xs w2 (h.below hb0) hx hb0.size _ rfl (by omega))
 have HM := Hi (fun w (hb : Below w2.heap.size w2 w) => meant_any W.heap.size A c n s g xs w ((h.below hb0).below (hb.mono hb0.size)) hx (Nat.le_trans hb0.size hb.size) (by omega) _ rfl)
 have HR1 := Hi r1
 have HR2 := Hi r2
 have HB := Hi hb0
 have a0 := row1 r1
 have e0 := row20 r2
 have e1 := row21 r2
 have HH := Hi h
 have l1 := r1.lt
 have l2 := r2.lt
 clear b1 b2 hb0 r1 r2 h
 obtain ⟨o, ho⟩ : ∃ o, arOk xs = o := ⟨_, rfl⟩
 cases o
 ·
  rw [chk_no ho] at HC
  rw [ho] at hr
  simp at hr
  subst hr
  simp at hv
  subst hv
  clear ho
  go_enter Tryz.func27, Tryz.ntmps27
  go_wp2_with fail
  clear hw1 hw2 s1
  refine HC.out.mono ?_
  rintro e w3 ⟨rfl, hb⟩
  go_wp2_with fail
  go_ret2
  exact ⟨rfl, HB.out.trans (hb.mono HB.out.size)⟩
 ·
  rw [chk_ok ho] at HC
  rw [ho, Bool.true_and] at hr
  rw [hr] at HM
  cases r
  ·
   simp at hv
   subst hv
   clear hr ho
   go_enter Tryz.func27, Tryz.ntmps27
   go_wp2_with fail
   clear hw1 hw2 s1
   refine HC.out.mono ?_
   rintro e w3 ⟨rfl, hb⟩
   have f0 := kept hb a0
   have g0 := kept hb e0
   have g1 := kept hb e1
   have HM3 := Hi (HM.out w3 hb)
   have HB3 := bt HB hb
   clear hb
   go_wp2_with fail
   refine HM3.out.mono ?_
   rintro e w4 ⟨rfl, hb⟩
   go_wp2_with fail
   go_ret2
   exact ⟨rfl, HB3.out.trans (hb.mono HB3.out.size)⟩
  ·
   simp at hv
   have hr' := meantB_out hr
   obtain ⟨k, hk, hkl, hg⟩ := hr'
   dsimp only at hk hg
   subst hk
   have hh : Rd W W.heap.size 2 A xs.length (Cs encE xs) := by rw [hx]; exact HH.out
   obtain ⟨b1, o1, rfl, hb1, hc1⟩ := hh.elem encE_len hkl
   have hd10 := hc1 0 _ (by omega) rfl
   simp only [Nat.add_zero] at hd10
   have hvx : xs[k].1 = v := by
    rw [← hv]; simp [tagOf, List.getElem?_eq_getElem hkl]
   rw [hvx] at hd10
   have HD := Hi hd10
   have hkn : (k : Int) < (n : Int) := by omega
   have l0 : b1 < w2.heap.size := by omega
   clear hr ho hc1 hh hv hvx hg hd10
   go_enter Tryz.func27, Tryz.ntmps27
   go_wp2_with fail
   clear hw1 hw2 s1
   refine HC.out.mono ?_
   rintro e w3 ⟨rfl, hb⟩
   have f0 := kept hb a0
   have g0 := kept hb e0
   have g1 := kept hb e1
   have HM3 := Hi (HM.out w3 hb)
   have HB3 := bt HB hb
   clear hb
   go_wp2_with fail
   refine HM3.out.mono ?_
   rintro e w4 ⟨rfl, hb⟩
   have HB4 := bt HB3 hb
   have p0 := kept hb f0
   have q0 := kept hb g0
   have hd := kept HB4.out HD.out
   clear hb
   go_wp2_with fail
   go_ret2
   exact ⟨rfl, HB4.out⟩
end Go.Proofs.YtkicidopjihjmaaGreat
namespace Go.Proofs.YtkicidopjihjmaaGreat
open Go Go.RowKit
attribute [local go_sem] Oper.semAt_some
def encEv (x : Int × Int) : Array Value := #[.agg #[.int .i64 x.1, .int .u64 x.2]]
theorem tagged_any (A : Option Addr) (c n : Nat) (tag : Int) (W : World) :
  Calls Tryz.prog 58 #[.agg #[.slice A n c], .int .i64 tag] W fun e W' => e = .returned (.func (.func 96) #[] #[.pointer (some ⟨W.heap.size, 0, none⟩), .pointer (some ⟨W.heap.size + 1, 0, none⟩)]) ∧
   RowAt W' W.heap.size 24 #[.slice A n c] ∧ RowAt W' (W.heap.size + 1) 3 #[.int .i64 tag] ∧ Below W.heap.size W W' := by
 have h1 : RowAt ((W.alloc (.cells #[.slice A n c] 24)).alloc (.cells #[.int .i64 tag] 3)) W.heap.size 24 #[.slice A n c] := (RowAt.new W 24 _).below ((Below.refl _ _).alloc (Nat.le_refl _) _)
 have h2 : RowAt ((W.alloc (.cells #[.slice A n c] 24)).alloc (.cells #[.int .i64 tag] 3)) (W.heap.size + 1) 3 #[.int .i64 tag] := by
  have h := RowAt.new (W.alloc (.cells #[.slice A n c] 24)) 3 #[.int .i64 tag]
  rw [World.size_alloc] at h; exact h
 have H1 := Hi h1
 have H2 := Hi h2
 clear h1 h2
 go_enter Tryz.func58, Tryz.ntmps58
 go_wp2
 go_ret
 exact ⟨rfl, H1.out, H2.out, ((Below.refl _ _).alloc (Nat.le_refl _) _).alloc (by simp) _⟩
theorem tagged_seq (K : Nat → Prop) (ga gt : Nat) (A : Option Addr) (c : Nat) (tag : Int) (xs : List (Int × Int)) (w : World) (hk : w.cell? ⟨ga, 0, none⟩ = some (.slice A xs.length c)) (ht : w.cell? ⟨gt, 0, none⟩ = some (.int .i64 tag)) (hga : ga < w.heap.size) (hgt : gt < w.heap.size)
  (hKt : K gt) (hKlt : ∀ j, K j → j < w.heap.size) (hr : Rd w w.heap.size 2 A xs.length (Cs encE xs)) (hKb : ∀ p, A = some p → 0 < xs.length → K p.block) (hl : xs.length ≤ 4096) :
  Seq3 Tryz.prog 96 #[.pointer (some ⟨ga, 0, none⟩), .pointer (some ⟨gt, 0, none⟩)] encEv K (fun ys => ys = ents xs tag) (fun pre => ∃ r, pre ++ r = ents xs tag) (fun _ => False) [] xs.length w := by
 intro l J Jx W hbW hJ hJx hY h0
 have HR := Hi hr
 have hkW := kept hbW hk
 have HCW := Hi (fun j (hj : K j) => hbW.block j (hKlt j hj))
 have HTW := Hi ht
 have hszW := hbW.size
 have HKB := Hi hKb
 have HKT := Hi hKt
 have HKL := Hi hKlt
 have HJ := Hi hJ
 have HY := Hi hY
 have H0 := Hi h0
 clear hr hk ht hJ hJx hY h0 hKb hKt hKlt
 refine (callsIn_wide (n := 4)).1 (callsIn_of_wp Tryz.func96 rfl trivial ?_ rfl)
 simp only [Tryz.ntmps96, List.size_toArray, List.length_cons, List.length_nil, Nat.reduceAdd, Nat.reduceSub, Array.replicate_succ, Array.replicate_zero, List.push_toArray, List.append_toArray, List.nil_append, List.cons_append]
 gi_wp2
 gi_loopw [9] (fun i wr => ∃ k : Nat, k ≤ xs.length ∧ i = .int .i64 k ∧ J (ents (xs.take k) tag) wr ∧ (∀ j, K j → wr.heap[j]? = W.heap[j]?)) (fun i _ => xs.length - (intOf i).toNat)
 case atStart => exact ⟨0, Nat.zero_le _, rfl, H0.out, fun _ _ => rfl⟩
 case round =>
  obtain ⟨k, hk, rfl, hj, hkeep⟩ := hrel
  have HKP := Hi hkeep
  have HJk := Hi hj
  clear hkeep hj
  have ht : wr.cell? ⟨gt, 0, none⟩ = some (.int .i64 tag) := (cell_of_heap ((HKP.out gt HKT.out).trans (HCW.out gt HKT.out))).trans HTW.out
  have hgtr : gt < wr.heap.size := by
   rcases Nat.lt_or_ge gt wr.heap.size with h | h
   · exact h
   · unfold World.cell? at ht; simp only [] at ht; rw [Array.getElem?_eq_none h] at ht; cases ht
  by_cases hlt : k < xs.length
  ·
   obtain ⟨b1, o1, rfl, hb1, hc1⟩ := HR.out.elem encE_len hlt
   have hKb1 := HKB.out _ rfl (by omega)
   have hbh : wr.heap[b1]? = w.heap[b1]? := (HKP.out b1 hKb1).trans (HCW.out b1 hKb1)
   have hd10 := (cell_of_heap (p := ⟨b1, o1 + k * 2 + 0, none⟩) hbh).trans (hc1 0 _ (by omega) rfl)
   have hd11 := (cell_of_heap (p := ⟨b1, o1 + k * 2 + 1, none⟩) hbh).trans (hc1 1 _ (by omega) rfl)
   simp only [Nat.add_zero] at hd10
   have hb1r : b1 < wr.heap.size := by
    rw [Array.getElem?_eq_getElem hb1] at hbh
    exact (Array.getElem?_eq_some_iff.1 hbh).1
   have HL := Hi (Nat.le_trans (ents_length (xs.take k) tag) (List.length_take_le _ _))
   have HS := Hi (ents_snoc xs tag k hlt)
   have HE := Hi (show ents xs tag = ents (xs.take (k + 1)) tag ++ entsF tag (0 + (xs.take (k + 1)).length) (xs.drop (k + 1)) by
    unfold ents; rw [← entsF_append, List.take_append_drop])
   generalize xs[k] = x at *
   obtain ⟨t, g⟩ := x
   dsimp only at hd10 hd11 HS
   have hjs : ∀ j, K j → j < wr.heap.size := fun j hj => by
    have h3 := (HKP.out j hj).trans (HCW.out j hj)
    rw [Array.getElem?_eq_getElem (HKL.out j hj)] at h3
    exact (Array.getElem?_eq_some_iff.1 h3).1
   have HJS := Hi hjs
   clear hc1 hbh hjs
   by_cases htt : t = tag
   ·
    subst htt
    rw [if_pos rfl] at HS
    have hbe : (t == t) = true := by simp
    have hJ1 : J (ents (xs.take k) t) (wr.alloc (.cells #[.int .i64 t, .int .u64 g] 84)) := HJ.out _ _ _ HJk.out ((Below.refl _ _).alloc (Nat.le_refl _) _)
    obtain ⟨fn, tmps, assign, body, hy, hR⟩ := HY.out (ents (xs.take k) t) ((k : Int), g) _ hJ1 (Nat.lt_of_le_of_lt HL.out hlt)
    dsimp only [encEv] at hy
    have HK1 : Hid (∀ j, K j → (wr.alloc (.cells #[.int .i64 t, .int .u64 g] 84)).heap[j]? = W.heap[j]?) := Hi (fun j hj => by
     rw [Below.heap_alloc _ _ _ (HJS.out j hj)]; exact HKP.out j hj)
    clear hJ1
    gi_wp2
    refine hR.mono ?_
    rintro e W3 (⟨rfl, hJ3, hk3⟩ | ⟨rfl, hJx3⟩)
    ·
     rw [← HS.out] at hJ3
     have HJ3 := Hi hJ3
     have HK3 : Hid (∀ j, K j → W3.heap[j]? = W.heap[j]?) := Hi (fun j hj => (hk3 j hj).trans (HK1.out j hj))
     clear hJ3 hk3
     gi_wp2
     go_roundw
     case rel => exact ⟨k + 1, by omega, by go_num, HJ3.out, HK3.out⟩
     case measure => simp [intOf]; omega
    ·
     rw [← HS.out] at hJx3
     have HJ3 := Hi hJx3
     clear hJx3
     gi_wp2
     refine bodyPost_ret (results_none rfl _ _ _) rfl ?_
     exact .inl ⟨_, rfl, .inr ⟨_, ⟨_, HE.out.symm⟩, HJ3.out⟩⟩
   ·
    rw [if_neg htt, List.append_nil] at HS
    have hbe : (t == tag) = false := by simpa using htt
    have HJ1 := Hi (HJ.out _ _ _ HJk.out ((Below.refl wr.heap.size wr).alloc (Nat.le_refl _) (.cells #[.int .i64 t, .int .u64 g] 84)))
    rw [← HS.out] at HJ1
    have HK1 : Hid (∀ j, K j → (wr.alloc (.cells #[.int .i64 t, .int .u64 g] 84)).heap[j]? = W.heap[j]?) := Hi (fun j hj => by
     rw [Below.heap_alloc _ _ _ (HJS.out j hj)]; exact HKP.out j hj)
    clear htt
    gi_wp2
    refine ⟨by simp, ?_⟩
    gi_wp2
    go_roundw
    case rel => exact ⟨k + 1, by omega, by go_num, HJ1.out, HK1.out⟩
    case measure => simp [intOf]; omega
  ·
   gi_wp2
   go_end0
   obtain rfl : k = xs.length := by omega
   have h1 := HJk.out
   rw [List.take_length] at h1
   exact .inl ⟨_, rfl, .inl ⟨_, rfl, h1⟩⟩
end Go.Proofs.YtkicidopjihjmaaGreat
namespace Go.Proofs.YtkicidopjihjmaaGreat
open Go Go.RowKit
attribute [local go_sem] Oper.semAt_some
def BoxSt (ko base : Nat) (pre : List (Int × Int)) (W : World) : Prop := ∃ v, RowAt W ko 29 #[v] ∧ W.ownsRow base 41 2 v pre.length (Cs encE pre)
theorem BoxSt.stays (ko base : Nat) : Stays (BoxSt ko base) := fun _ _ _ ⟨v, h1, h2⟩ hl => ⟨v, h1.lie hl, own_lie h2 hl⟩
theorem entries_no (A : Option Addr) (c n : Nat) (tag : Int) (xs : List (Int × Int)) (W : World) (h : Rd W W.heap.size 2 A n (Cs encE xs)) (hx : xs.length = n) (hn : n ≤ 4611686018427387904) (ho : arOk xs = false) :
  Calls Tryz.prog 23 #[.agg #[.slice A n c], .int .i64 tag] W fun e W' => e = .returned (.slice none 0 0) ∧ Below W.heap.size W W' := by
 have hb0 := ba W (.cells #[.slice A n c] 24)
 have HC := Hi (check_any W.heap.size A c n xs _ (h.below hb0) hx hb0.size _ (chk_no ho) (by omega))
 have HB := Hi hb0
 clear hb0
 go_enter Tryz.func23, Tryz.ntmps23
 go_wp2_with fail
 refine HC.out.mono ?_
 rintro e w3 ⟨rfl, hb⟩
 go_wp2_with fail
 go_ret
 exact ⟨rfl, HB.out.trans (hb.mono HB.out.size)⟩
theorem entries_yes (A : Option Addr) (c n : Nat) (tag : Int) (xs : List (Int × Int)) (W : World) (h : Rd W W.heap.size 2 A n (Cs encE xs)) (hx : xs.length = n) (ho : arOk xs = true) :
  Calls Tryz.prog 23 #[.agg #[.slice A n c], .int .i64 tag] W fun e W' => ∃ A' c', e = .returned (.slice A' (ents xs tag).length c') ∧ (ents xs tag).length ≤ c' ∧ c' ≤ 9223372036854775807 ∧ Rd W' W'.heap.size 2 A' (ents xs tag).length (Cs encE (ents xs tag)) ∧ Below W.heap.size W W' := by
 have hn : n ≤ 128 := by have := (arOk_out ho).2.1; omega
 have hb0 := ba W (.cells #[.slice A n c] 24)
 have HC := Hi (check_any W.heap.size A c n xs _ (h.below hb0) hx hb0.size _ (chk_ok ho) (by omega))
 have HRW := Hi (RowAt.new W 24 #[.slice A n c])
 have HB := Hi hb0
 have HH := Hi h
 have HX := Hi hx
 clear hb0 ho h hx
 refine calls_of_wp_marks Tryz.func23 rfl ?_
 simp only [Tryz.ntmps23, List.size_toArray, List.length_cons, List.length_nil, Nat.reduceAdd, Nat.reduceSub, Array.replicate_succ, Array.replicate_zero, List.push_toArray, List.append_toArray, List.nil_append, List.cons_append]
 go_wp2_with fail
 refine HC.out.mono ?_
 rintro e w3 ⟨rfl, hb⟩
 have HRW3 := Hi (HRW.out.below hb)
 have HB3 := bt HB hb
 have a0 := row1 HRW3.out
 have la := HRW3.out.lt
 clear hb HRW
 go_wp2_with fail
 refine (tagged_any A c n tag (w3.alloc (.cells #[.slice none 0 0] 29))).mono ?_
 rintro e w5 ⟨rfl, hra, hrt, hb⟩
 rw [World.size_alloc] at hra hrt hb ⊢
 obtain ⟨ko, hko⟩ : ∃ ko, w3.heap.size = ko := ⟨_, rfl⟩
 have hrow0 : RowAt w5 ko 29 #[.slice none 0 0] := by
  have h := RowAt.new w3 29 #[.slice none 0 0]
  rw [hko] at h
  exact (hb.block ko (by omega)).trans h
 have hs5 := hb.size
 rw [World.size_alloc] at hs5
 have HB5 : Hid (Below W.heap.size W w5) := Hi ((HB3.out.alloc HB3.out.size _).trans (hb.mono (by have := HB3.out.size; omega)))
 rw [hko] at hra hrt hs5 ⊢
 have hla := hra.lt
 have hlt := hrt.lt
 have hlW := HB3.out.size
 rw [hko] at hlW
 have hseq := tagged_seq (fun j => j ≠ ko ∧ j < w5.heap.size) (ko + 1) (ko + 1 + 1) A c tag xs w5 (by rw [HX.out]; exact row1 hra) (row1 hrt) hla hlt ⟨by omega, hlt⟩ (fun j hj => hj.2) (by rw [HX.out]; exact (HH.out.below HB5.out).more HB5.out.size) (fun p hp hpos => by
  subst hp
  obtain ⟨b, off, e, hb1, _⟩ := HH.out.2 (by rw [← HX.out]; exact hpos)
  injection e with e
  subst e
  exact ⟨by show b ≠ ko; omega, by show b < _; have := HB5.out.size; omega⟩) (by rw [HX.out]; omega)
 clear hb a0 la hra hrt hko HC
 go_wp2_with fail
 refine wp_range (gf := 96) (lb := #[.pointer (some ⟨ko + 1, 0, none⟩), .pointer (some ⟨ko + 1 + 1, 0, none⟩)]) rfl (enters_of Tryz.func96 (by kernel_rfl) rfl) hseq ko (by omega) (fun j hj => hj.2) (Below.refl _ _) (fun _ => rfl)
  (BoxSt ko w5.heap.size) (fun _ _ _ => False) (BoxSt.stays ko w5.heap.size) (fun _ _ _ _ h _ => h) ⟨_, hrow0, World.ownsRow_nil _ _ _ _⟩
  (fun T x a' W => BoxAct ko #[13] (encEv x) 6 41 #[.int .i64 x.1, .int .u64 x.2] T a' W) (fun T a' => BoxAct.stays ko #[13] encEv 6 41 (fun x => #[.int .i64 x.1, .int .u64 x.2]) T a') ?assign ?body ?done ?stop ?panic
 case assign =>
  intro l pre x W R hI hb hs hlen hR
  dsimp only [encEv] at hR ⊢
  gi_wp2
  refine hR _ _ (KeepsOthers.alloc _ _) ((Below.refl _ _).alloc (by omega) _) (fun j hj => Below.heap_alloc _ _ _ (by have := hj.2; omega)) (BoxSt.stays _ _ _ _ _ hI (CellsLie.of_below ((Below.refl _ _).alloc (Nat.le_refl _) _))) ⟨W.heap.size, RowAt.new W 41 _, by omega, by simp [encEv]⟩
 case body =>
  rintro l pre x a' W ⟨v, hrow, hown⟩ ⟨Bx, hbx, hkx, rfl⟩ hb hs hlen
  dsimp only [encEv]
  have hbx' : RowAt W Bx 41 #[.int .i64 x.1, .int .u64 x.2] := hbx
  have e0 := row20 hbx'
  have e1 := row21 hbx'
  have d1 := row1 hrow
  have HR := Hi hrow
  have hWs : ko < W.heap.size := hrow.lt
  have hWx : Bx < W.heap.size := hbx'.lt
  have hpl : pre.length < 4096 := by have := HX.out; omega
  clear hrow hbx
  gi_wp2_with (gi_at_builtin; refine wpListIn_app elE rfl _ _ rfl rfl (hown.alloc _) rfl (Rd.new W #[.int .i64 x.1, .int .u64 x.2] 41 2 1 rfl) (by simp [Value.oneCell']) (by omega) (by rw [World.size_alloc]; omega) ?_; intro v2 w3 hown3 hb3 hg3 _; obtain ⟨g2, cap2, rfl, hge2, hlt2⟩ := hown3.form (by omega); have hr3 : RowAt w3 ko 29 #[v] := (HR.out.below ((Below.refl _ _).alloc (Nat.le_refl _) _)).belowB (by omega) hb3; have HR3 := Hi hr3; have d3 := row1 hr3; have f3 := hr3.frozen 0; clear hr3)
  have hka : KeepsOthers W w3 := (KeepsOthers.alloc W _).trans (KeepsOthers.of_grownBy hg3 (fun j o hj ho => by
   obtain ⟨o', ho', hc'⟩ := own_cells (hown.alloc (.cells #[.int .i64 x.1, .int .u64 x.2] 41)) hj
   rw [ho'] at ho
   injection ho with ho
   rw [← ho]; exact hc'))
  refine ⟨hka.trans (KeepsOthers.setCell _ _ _), ((Below.refl ko W).alloc (by omega) _).trans ((hb3.mono (show ko ≤ w5.heap.size by omega)).setCell (Nat.le_refl _) _), fun j hj => ?_, ⟨_, HR3.out.set 0 _, ?_⟩⟩
  ·
   have h1 := hj.1
   have h2 := hj.2
   rw [heap_setCell_ne _ _ _ _ (by simpa using h1), hb3.block j (by omega), Below.heap_alloc _ _ _ (by omega)]
  ·
   have h := own_other (w' := w3.setCell ⟨ko, 0, none⟩ (.slice (some ⟨g2, 0, none⟩) (pre.length + 1) cap2)) hown3 (fun g hg => heap_setCell_ne _ _ _ _ (by simp; omega))
   simp only [List.length_append, List.length_cons, List.length_nil, Cs_append, Cs_one]
   exact h
 case done =>
  rintro ys W rfl ⟨v, hrow, hown⟩ hb hs hD
  have d0 := row1 hrow
  have HO := Hi hown
  have hD' := Hi hD
  have hlk := hrow.lt
  have hfin := Hi (HB5.out.trans (hb.mono hlW))
  clear hrow hown hD hb
  unfold marked
  go_wp2_with fail
  refine ⟨by simp, .inl ⟨_, _, rfl, run_takeDeferred hD'.out, ?_⟩⟩
  obtain ⟨A', c', rfl, hc, hcm⟩ := own_form2 HO.out
  refine ⟨.slice A' (ents xs tag).length c', by simp [results, Tryz.results23, go_sem], A', c', rfl, hc, hcm, ?_, ?_⟩
  · exact Rd.of_own (own_lie HO.out (CellsLie.putObj (.deferred none) hD'.out rfl))
  · exact hfin.out.trans (below_putObj (o := .deferred (some [])) _ (by have := HB5.out.size; omega))
 case stop =>
  rintro c pre W _ h
  exact h.elim
 case panic =>
  rintro pre W h
  exact h.elim
theorem entries_any (A : Option Addr) (c n : Nat) (tag : Int) (xs : List (Int × Int)) (W : World) (h : Rd W W.heap.size 2 A n (Cs encE xs)) (hx : xs.length = n) (hn : n ≤ 4611686018427387904) (ys : List (Int × Int)) (hy : (if arOk xs = true then ents xs tag else []) = ys) (m : Nat) (hm : ys.length = m) :
  Calls Tryz.prog 23 #[.agg #[.slice A n c], .int .i64 tag] W fun e W' => ∃ A' c', e = .returned (.slice A' m c') ∧ m ≤ c' ∧ c' ≤ 9223372036854775807 ∧ Rd W' W'.heap.size 2 A' m (Cs encE ys) ∧ Below W.heap.size W W' := by
 subst hm
 obtain ⟨o, ho⟩ : ∃ o, arOk xs = o := ⟨_, rfl⟩
 cases o
 ·
  rw [ho] at hy
  simp at hy
  subst hy
  exact (entries_no A c n tag xs W h hx hn ho).mono fun e W' ⟨h1, h2⟩ => ⟨none, 0, h1, Nat.le_refl _, by omega, Rd.none_, h2⟩
 ·
  rw [ho, if_pos rfl] at hy
  subst hy
  exact entries_yes A c n tag xs W h hx ho
end Go.Proofs.YtkicidopjihjmaaGreat
namespace Go.Proofs.YtkicidopjihjmaaGreat
open Go Go.RowKit
section
variable {P : Program} {ops : Array Oper} {md : Region.Mode} {C : World → Prop}
def wpAnyLQ (P : Program) (md : Region.Mode) (ops : Array Oper) (C : World → Prop) (n : Nat) (L : Array Bool → Act → Prop) : Nat → Array Bool → Act → Prop
 | 0, listed, a => L listed a
 | f + 1, listed, a =>
  Region.ready md ops listed ≠ [] ∧ ∀ i ∈ Region.ready md ops listed, i < n ∧ qOp P ops C i (wpAnyLQ P md ops C n L f (listed.setIfInBounds i true)) a
theorem wpAny_of_headQ {n g : Nat} {L : Array Bool → Act → Prop} {Q' : Exit → Act → World → Prop} (hL : ∀ listed a w, C w → L listed a → wpAny P md ops Q' g listed a w) :
  ∀ (f : Nat) (listed : Array Bool) (a : Act) (w : World), C w → wpAnyLQ P md ops C n L f listed a → wpAny P md ops Q' (f + g) listed a w
 | 0, listed, a, w, hC, h => by rw [Nat.zero_add]; exact hL _ _ _ hC h
 | f + 1, listed, a, w, hC, h => by
  rw [show f + 1 + g = (f + g) + 1 by omega]
  exact ⟨fun h0 => absurd h0 h.1, fun i hi => wpOp_of_qOp hC (fun a' w' hw' h' => wpAny_of_headQ hL f _ a' w' hw' h') (h.2 i hi).2⟩
theorem wpAnyLQ_first {n i : Nat} {oi : Oper} {v : Value} {L : Array Bool → Act → Prop} (hi : ops[i]? = some oi) (hsel : ∀ (j : Nat) (o : Oper) cs b, ops[j]? = some o → o.op ≠ .select cs b)
  (hs : Region.sinkB md ops n = true) (hc : Region.chainB md ops n = true) (hn : n < ops.size) (hin : i < n)
  (hdone : ∀ listed a, L listed a → ∀ j ∈ Region.ready md ops listed, n ≤ j) :
  ∀ (f : Nat) (listed : Array Bool) (a : Act), HeadInv md ops n listed →
   (∀ j oj, ops[j]? = some oj → j ≠ i → listed.getD j true = false → (∀ e ∈ oj.after, Region.binds md e = true → e.on ≠ i) → oi.apart ops oj = true) →
   i ∈ Region.ready md ops listed → YieldsIn P ops C oi v a →
   wpAnyLQ P md ops C n L f (listed.setIfInBounds i true) (a.put oi.dst v) → wpAnyLQ P md ops C n L (f + 1) listed a := by
 intro f
 induction f with
 | zero =>
  intro listed a inv _ hr hy H
  have hun := (mem_ready.1 hr).1
  refine ⟨fun h => (by rw [h] at hr; cases hr), fun j hj => ?_⟩
  have hjn : j < n := by
   rcases Nat.lt_or_ge j n with h | h
   · exact h
   · exact absurd hj (tail_waits hs hc hn inv _ i rfl hin hun j h)
  refine ⟨hjn, ?_⟩
  by_cases hji : j = i
  · subst hji; exact hy.qOp hi H
  ·
   have := hdone _ _ H j (ready_mono hj hji)
   omega
 | succ f ih =>
  intro listed a inv hfree hr hy H
  have hun := (mem_ready.1 hr).1
  refine ⟨fun h => (by rw [h] at hr; cases hr), fun j hj => ?_⟩
  have hjn : j < n := by
   rcases Nat.lt_or_ge j n with h | h
   · exact h
   · exact absurd hj (tail_waits hs hc hn inv _ i rfl hin hun j h)
  refine ⟨hjn, ?_⟩
  by_cases hji : j = i
  · subst hji; exact hy.qOp hi H
  ·
   have h1 := (H.2 j (ready_mono hj hji)).2
   obtain ⟨hjun, oj, hoj, hall⟩ := mem_ready.1 hj
   have hnot : ∀ e ∈ oj.after, Region.binds md e = true → e.on ≠ i := fun e he hb heq => by
    have h1 := hall e he hb
    rw [heq, getD_both hun] at h1
    cases h1
   have h2 := qOp_put hoj (hfree j oj hoj hji hjun hnot) (fun cs b => hsel i oi cs b hi) (fun cs b => hsel j oj cs b hoj) hy h1
   have hfree' : ∀ k ok, ops[k]? = some ok → k ≠ i → (listed.setIfInBounds j true).getD k true = false →
     (∀ e ∈ ok.after, Region.binds md e = true → e.on ≠ i) → oi.apart ops ok = true := fun k ok hk hki hun hno => by
    refine hfree k ok hk hki ?_ hno
    by_cases hjk : j = k
    · subst hjk; exact hjun
    · rw [getD_set_ne true hjk] at hun; exact hun
   refine qOp_mono (fun a' h3 => ih (listed.setIfInBounds j true) a' (inv.set hj hjn) hfree' (ready_mono hr (Ne.symm hji)) h3.1 ?_) h2
   rw [Array.setIfInBounds_comm _ _ hji]
   exact h3.2
theorem wpAnyLQ_lex {n g : Nat} {Lq : Act → Prop} (hsel : Region.noSelect ops = true) (hs : Region.sinkB md ops n = true) (hc : Region.chainB md ops n = true) (hn : n < ops.size) :
  ∀ (l : List Oper) (k : Nat) (listed : Array Bool) (a : Act), (∀ j, j < l.length → l[j]? = ops[k + j]?) → k + l.length = n → HeadInv md ops n listed →
  Region.lexHead md ops g l.length k listed = true → wpQuiet P ops C Lq l a →
  wpAnyLQ P md ops C n (fun listed' a' => Region.seqB md ops g n listed' = true ∧ Lq a') l.length listed a
 | [], k, listed, a, _, hk, _, hB, h => by
  have : k = n := by simpa using hk
  subst this
  exact ⟨by simpa [Region.lexHead] using hB, h⟩
 | o :: l, k, listed, a, hl, hk, inv, hB, h => by
  have h0 : ops[k]? = some o := by simpa using (hl 0 (by simp)).symm
  simp only [List.length_cons, Region.lexHead, Bool.and_eq_true] at hB
  obtain ⟨⟨hr, hf⟩, hB'⟩ := hB
  have hkn : k < n := by simp only [List.length_cons] at hk; omega
  have hr' : k ∈ Region.ready md ops listed := by simpa using hr
  have hst : qOp P ops C k (wpQuiet P ops C Lq l) a := by unfold qOp; simp only [h0]; exact h
  obtain ⟨v, hy, hK⟩ := yieldsIn_of_qOp h0 hst
  exact wpAnyLQ_first h0 (Region.noSelect_spec hsel) hs hc hn hkn (fun listed' a' hL => seqB_ready hL.1) l.length listed a inv (Region.free_spec h0 hf) hr' hy
   (wpAnyLQ_lex hsel hs hc hn l (k + 1) _ _ (fun j hj => by have := hl (j + 1) (by simp; omega); simpa [Nat.add_assoc, Nat.add_comm 1 j] using this) (by simp only [List.length_cons] at hk; omega) (inv.set hr' hkn) hB' hK)
theorem wp_region_tail {id : Nat} {Q : Exit → Act → World → Prop} {a : Act} {w : World} {l : List Oper} (n : Nat) (hm : P.follows .mixedOrders = true) (hB : Region.lexTailB .any l.toArray n = true)
  (h : wpQuiet P l.toArray (fun w' => ∃ z, w' = via w z) (fun a' => ∀ w', (∃ z, w' = via w z) → wpList P l.toArray Q (l.drop n) a' w') (l.take n) a) : (Code.region id l.toArray true).wp P Q a w := by
 simp only [Region.lexTailB, Bool.and_eq_true, decide_eq_true_eq] at hB
 obtain ⟨⟨⟨⟨hsel, hn⟩, hs⟩, hc⟩, hlex⟩ := hB
 have hn' : n < l.length := by simpa using hn
 have htl : (l.take n).length = n := by simp; omega
 have hdl : (l.drop n).length = l.toArray.size - n := by simp
 have inv0 : HeadInv .any l.toArray n (Array.replicate l.toArray.size false) :=
  ⟨by simp, fun j oj _ hl => (by rw [getD_replicate_false] at hl; cases hl), fun t _ ht => getD_in (by simpa using ht) (getD_replicate_false _ _)⟩
 have H := wpAnyLQ_lex (md := .any) (g := l.toArray.size - n) hsel hs hc hn (l.take n) 0 _ a (fun j hj => by
  have hj' : j < n := by rw [htl] at hj; exact hj
  simp [hj']) (by simpa using htl) inv0 (by rw [htl]; exact hlex) h
 refine wp_region_any hm ?_
 have := wpAny_of_headQ (Q' := Q) (g := l.toArray.size - n) (fun listed a' w' hw' hL => by
  have := wpAny_of_seq (md := .any) (Q' := Q) (l.drop n) n listed a' w' (fun j => by simp [List.getElem?_drop]) (by rw [hdl]; exact hL.1) (hL.2 w' hw')
  rwa [hdl] at this) _ _ _ { w with drawn := w.drawn + 1 } ⟨w.drew, (via_eq (Below.refl _ _).drew).symm⟩ H
 rw [htl, show n + (l.toArray.size - n) = l.toArray.size by omega] at this
 exact this
theorem tail_out {Q : Exit → Act → World → Prop} {w : World} {l : List Oper} {a : Act} (h : ∀ w', Below w.heap.size w w' → wpList P ops Q l a w') :
  wpQuiet P ops (fun w' => ∃ z, w' = via w z) (fun a' => ∀ w', (∃ z, w' = via w z) → wpList P ops Q l a' w') [] a :=
 wpQuiet_nil fun w' ⟨z, hz⟩ => h w' (hz ▸ via_below w z)
end
end Go.Proofs.YtkicidopjihjmaaGreat
namespace Go.Proofs.YtkicidopjihjmaaGreat
open Go Go.RowKit
attribute [local go_sem] via_cell via_frozen
structure HandAt (w : World) (gh gs n : Nat) (xs : List (Int × Int)) : Prop where
 len : xs.length = n
 ne : gs ≠ gh
 box : RowAt w gh 169 #[.slice (some ⟨gs, 0, none⟩) n n]
 row : RowAt w gs 84 (Cs encE xs).toArray
theorem HandAt.rd {w : World} {gh gs n : Nat} {xs : List (Int × Int)} (h : HandAt w gh gs n xs) : Rd w w.heap.size 2 (some ⟨gs, 0, none⟩) n (Cs encE xs) := by
 refine ⟨by rw [Cs_length encE_len, h.len], fun _ => ⟨gs, 0, rfl, h.row.lt, fun j u hu => ?_⟩⟩
 rw [Nat.zero_add, h.row.cell]
 simpa using hu
theorem HandAt.below {w w' : World} {gh gs n : Nat} {xs : List (Int × Int)} (h : HandAt w gh gs n xs) (hb : Below w.heap.size w w') : HandAt w' gh gs n xs := ⟨h.len, h.ne, h.box.below hb, h.row.below hb⟩
theorem HandAt.cell0 {w : World} {gh gs n : Nat} {xs : List (Int × Int)} (h : HandAt w gh gs n xs) {k : Nat} (hk : k < n) : w.cell? ⟨gs, k * 2, none⟩ = some (.int .i64 (xs.getD k (0, 0)).1) := by
 have hk' : k < xs.length := by rw [h.len]; exact hk
 rw [h.row.cell]
 have := Cs_at encE_len xs k 0 hk' (by omega)
 rw [List.getD_eq_getElem?_getD, List.getElem?_eq_getElem hk']
 simpa [encE] using this
theorem HandAt.cell1 {w : World} {gh gs n : Nat} {xs : List (Int × Int)} (h : HandAt w gh gs n xs) {k : Nat} (hk : k < n) : w.cell? ⟨gs, k * 2 + 1, none⟩ = some (.int .u64 (xs.getD k (0, 0)).2) := by
 have hk' : k < xs.length := by rw [h.len]; exact hk
 rw [h.row.cell]
 have := Cs_at encE_len xs k 1 hk' (by omega)
 rw [List.getD_eq_getElem?_getD, List.getElem?_eq_getElem hk']
 simpa [encE] using this
theorem Cs_set0 (xs : List (Int × Int)) (k : Nat) (t : Int) (hk : k < xs.length) : (Cs encE xs).set (k * 2) (.int .i64 t) = Cs encE (xs.set k (t, (xs.getD k (0, 0)).2)) := by
 induction xs generalizing k with
 | nil => simp at hk
 | cons x xs ih =>
  have hc : ∀ (y : Int × Int) (l : List (Int × Int)), Cs encE (y :: l) = .int .i64 y.1 :: .int .u64 y.2 :: Cs encE l := fun y l => rfl
  cases k with
  | zero => simp [hc]
  | succ k =>
   have h2 : (k + 1) * 2 = k * 2 + 1 + 1 := by omega
   rw [hc, h2, List.set_cons_succ, List.set_cons_succ, ih k (by simpa using hk), List.set_cons_succ, hc]
   simp
theorem Cs_set1 (xs : List (Int × Int)) (k : Nat) (g : Int) (hk : k < xs.length) : (Cs encE xs).set (k * 2 + 1) (.int .u64 g) = Cs encE (xs.set k ((xs.getD k (0, 0)).1, g)) := by
 induction xs generalizing k with
 | nil => simp at hk
 | cons x xs ih =>
  have hc : ∀ (y : Int × Int) (l : List (Int × Int)), Cs encE (y :: l) = .int .i64 y.1 :: .int .u64 y.2 :: Cs encE l := fun y l => rfl
  cases k with
  | zero => simp [hc]
  | succ k =>
   have h2 : (k + 1) * 2 + 1 = k * 2 + 1 + 1 + 1 := by omega
   rw [hc, h2, List.set_cons_succ, List.set_cons_succ, ih k (by simpa using hk), List.set_cons_succ, hc]
   simp
def SlabRes (W : World) (gs : Nat) (s : Int) (b1 b2 : Bool) (e : Ending) (W' : World) : Prop :=
 Below W.heap.size W W' ∧ ((b1 = true ∧ b2 = true ∧ e = .returned (.pointer (some ⟨gs, s.toNat * 2, none⟩))) ∨ ((b1 && b2) = false ∧ e = .panicked (errX 4)))
theorem slab_any (gh gs n m c : Nat) (At : Option Addr) (s g : Int) (ts : List Int) (xs : List (Int × Int)) (W : World) (h : HandAt W gh gs n xs) (hn : n ≤ 4096) (ht : Rd W W.heap.size 1 At m (Cs encI ts)) (htl : ts.length = m) (hm : m ≤ 4096) :
  Calls Tryz.prog 133 #[.pointer (some ⟨gh, 0, none⟩), .agg #[.int .i64 s, .int .u64 g], .slice At m c] W (SlabRes W gs s (meantB xs (s, g)) (ts.any fun y => decide (y = tagOf xs (s, g)))) := by
 have hb1 := ba W (.cells #[.int .i64 s, .int .u64 g] 41)
 have h1 := h.below hb1
 have ht1 := ht.below hb1
 have r1 : RowAt (W.alloc (.cells #[.int .i64 s, .int .u64 g] 41)) W.heap.size 41 #[.int .i64 s, .int .u64 g] := RowAt.new _ _ _
 have HM := Hi (fun z => via_of (meant_any (W.alloc (.cells #[.int .i64 s, .int .u64 g] 41)).heap.size (some ⟨gs, 0, none⟩) n n s g xs (via (W.alloc (.cells #[.int .i64 s, .int .u64 g] 41)) z) (h1.rd.below (via_below _ z)) h.len (via_below _ z).size (by omega) _ rfl))
 have HC := Hi (fun v z => via_of_same (ContainsII (W.alloc (.cells #[.int .i64 s, .int .u64 g] 41)).heap.size At c v ts (via (W.alloc (.cells #[.int .i64 s, .int .u64 g] 41)) z) (by rw [htl]; exact (ht1.more hb1.size).below (via_below _ z)) (via_below _ z).size (by omega)))
 rw [htl] at HC
 have hx0 := row1 h1.box
 have e0 := row20 r1
 have e1 := row21 r1
 have hl1 := h1.box.lt
 have hl2 := r1.lt
 have hl3 := h1.row.lt
 have HB := Hi hb1
 have HH := Hi h1
 obtain ⟨q, hq⟩ : ∃ q, meantB xs (s, g) = q := ⟨_, rfl⟩
 rw [hq] at HM ⊢
 cases q
 ·
  have HQ := Hi hq
  clear hb1 h h1 ht ht1 r1 hq HC
  go_enter Tryz.func133, Tryz.ntmps133
  go_wp2_with fail
  generalize W.alloc _ = w1 at *
  refine wp_region_tail 20 (by kernel_rfl) (by kernel_rfl) ?_
  simp only [List.take_succ_cons, List.take_zero, List.drop_succ_cons, List.drop_zero]
  repeat (go_big_quiet_step ((first | (go_at_call 61; exact HM.out _))))
  refine tail_out fun w2 hb2 => ?_
  have HB2 := bt HB hb2
  clear hb2 hx0 e0 e1
  go_wp2_with fail
  refine (need_no 4 _).mono ?_
  rintro e w3 ⟨rfl, rfl⟩
  go_wp2_with fail
  exact ⟨rfl, HB2.out, .inr ⟨rfl, rfl⟩⟩
 ·
  obtain ⟨k, hk, hkl, hg⟩ := meantB_out hq
  dsimp only at hk hg
  subst hk
  have hkn : k < n := by have := HH.out.len; omega
  have hkI : (k : Int) < (n : Int) := by omega
  have hd := HH.out.cell0 hkn
  have HT := Hi (show tagOf xs ((k : Int), g) = (xs.getD k (0, 0)).1 by simp [tagOf])
  obtain ⟨t, htt⟩ : ∃ t, (xs.getD k (0, 0)).1 = t := ⟨_, rfl⟩
  rw [htt] at hd HT
  rw [HT.out]
  obtain ⟨b, hb⟩ : ∃ b, (ts.any fun y => decide (y = t)) = b := ⟨_, rfl⟩
  have HCt := Hi (HC.out t)
  rw [hb] at HCt ⊢
  clear hb1 h h1 ht ht1 r1 hq htt HC hb hg
  go_enter Tryz.func133, Tryz.ntmps133
  go_wp2_with fail
  generalize W.alloc _ = w1 at *
  refine wp_region_tail 20 (by kernel_rfl) (by kernel_rfl) ?_
  simp only [List.take_succ_cons, List.take_zero, List.drop_succ_cons, List.drop_zero]
  repeat (go_big_quiet_step ((first | (go_at_call 61; exact HM.out _) | (go_at_call 152; exact HCt.out _))))
  refine tail_out fun w2 hb2 => ?_
  have hz2 : gs < w2.heap.size := Nat.lt_of_lt_of_le hl3 hb2.size
  have g0 := kept hb2 hx0
  have k0 := kept hb2 e0
  have k1 := kept hb2 e1
  have HB2 := bt HB hb2
  clear hb2 hx0 e0 e1
  cases b
  ·
   go_wp2_with fail
   refine (need_no 4 _).mono ?_
   rintro e w3 ⟨rfl, rfl⟩
   go_wp2_with fail
   exact ⟨rfl, HB2.out, .inr ⟨rfl, rfl⟩⟩
  ·
   go_wp2_with fail
   refine (need_ok 4 _).mono ?_
   rintro e w3 ⟨rfl, rfl⟩
   go_wp2_with fail
   go_quiet (fail)
   go_wp2_with fail
   go_ret
   exact ⟨below_drewN HB2.out _, .inl ⟨rfl, rfl, rfl⟩⟩
end Go.Proofs.YtkicidopjihjmaaGreat
namespace Go.Proofs.YtkicidopjihjmaaGreat
open Go Go.RowKit
attribute [local go_sem] Oper.semAt_some via_cell via_frozen
theorem HandAt.past {w w' : World} {gh gs n : Nat} {xs : List (Int × Int)} (h : HandAt w gh gs n xs) (hg : w'.heap[gh]? = w.heap[gh]?) (ys : List (Int × Int)) (hy : ys.length = n) (hr : RowAt w' gs 84 (Cs encE ys).toArray) : HandAt w' gh gs n ys := ⟨hy, h.ne, hg.trans h.box, hr⟩
theorem Past.after {k m : Nat} {a b c : World} (h : Past k a b) (hb : Below m b c) (hk : k ≤ m) (ha : a.heap.size ≤ m) : Past k a c :=
 ⟨h.below.trans (hb.mono hk), fun j hj hl => (hb.block j (by omega)).trans (h.block j hj hl), Nat.le_trans h.size hb.size⟩
def TakeRes (W : World) (gh gs n : Nat) (xs : List (Int × Int)) (e : Ending) (W' : World) : Prop :=
 (ents xs 0 = [] ∧ e = .panicked (errX 6) ∧ Below W.heap.size W W') ∨ (∃ x r, ents xs 0 = x :: r ∧ e = .returned (.agg #[.int .i64 x.1, .int .u64 x.2]) ∧ HandAt W' gh gs n (put1 1 xs x) ∧ Past gs W W')
def TkI (go_ : Nat) (pre : List (Int × Int)) (W : World) : Prop := pre = [] ∧ RowAt W go_ 41 #[.int .i64 0, .int .u64 0] ∧ RowAt W (go_ + 1) 4 #[.bool false]
def TkX (go_ id : Nat) (c : Code) (pre : List (Int × Int)) (W : World) : Prop := c = .exit id ∧ ∃ x, pre = [x] ∧ RowAt W go_ 41 #[.int .i64 x.1, .int .u64 x.2] ∧ RowAt W (go_ + 1) 4 #[.bool true]
theorem TkI.stays (g : Nat) : Stays (TkI g) := fun _ _ _ ⟨h0, h1, h2⟩ hl => ⟨h0, h1.lie hl, h2.lie hl⟩
theorem TkX.stays (g id : Nat) (c : Code) : Stays (TkX g id c) := fun _ _ _ ⟨h0, x, h1, h2, h3⟩ hl => ⟨h0, x, h1, h2.lie hl, h3.lie hl⟩
theorem take_any (gh gs n : Nat) (xs : List (Int × Int)) (W : World) (h : HandAt W gh gs n xs) (hn : n ≤ 4096) :
  Calls Tryz.prog 131 #[.pointer (some ⟨gh, 0, none⟩)] W (TakeRes W gh gs n xs) := by
 refine calls_of_wp_marks Tryz.func131 rfl ?_
 simp only [Tryz.ntmps131, List.size_toArray, List.length_cons, List.length_nil, Nat.reduceAdd, Nat.reduceSub, Array.replicate_succ, Array.replicate_zero, List.push_toArray, List.append_toArray, List.nil_append, List.cons_append]
 go_wp2_with fail
 go_step3
 go_wp2_with fail
 obtain ⟨w1, hw1⟩ : ∃ w1, W.alloc (.cells #[.int .i64 0, .int .u64 0] 41) = w1 := ⟨_, rfl⟩
 obtain ⟨w2, hw2⟩ : ∃ w2, w1.alloc (.cells #[.int .i64 0, .int .u64 0] 41) = w2 := ⟨_, rfl⟩
 obtain ⟨w3, hw3⟩ : ∃ w3, w2.alloc (.cells #[.bool false] 4) = w3 := ⟨_, rfl⟩
 have s1 : w1.heap.size = W.heap.size + 1 := by rw [← hw1]; simp
 have s2 : w2.heap.size = W.heap.size + 1 + 1 := by rw [← hw2]; simp [s1]
 have s3 : w3.heap.size = W.heap.size + 1 + 1 + 1 := by rw [← hw3]; simp [s2]
 have b1 := baw hw1
 have b2 := baw hw2
 have b3 := baw hw3
 have r1 : RowAt w3 W.heap.size 41 #[.int .i64 0, .int .u64 0] := by have h := RowAt.new W 41 #[.int .i64 0, .int .u64 0]; rw [hw1] at h; exact (h.below b2).below b3
 have r2 : RowAt w3 (W.heap.size + 1) 41 #[.int .i64 0, .int .u64 0] := by have h := RowAt.new w1 41 #[.int .i64 0, .int .u64 0]; rw [hw2, s1] at h; exact h.below b3
 have r3 : RowAt w3 (W.heap.size + 1 + 1) 4 #[.bool false] := by have h := RowAt.new w2 4 #[.bool false]; rw [hw3, s2] at h; exact h
 have hb0 : Below W.heap.size W w3 := (b1.trans (b2.mono b1.size)).trans (b3.mono (by omega))
 have HH := Hi (h.below hb0)
 have HB := Hi hb0
 have R1 := Hi r1
 have R2 := Hi r2
 have R3 := Hi r3
 have hx0 := row1 HH.out.box
 have hl1 := HH.out.box.lt
 have hghW := h.box.lt
 have hgsW := h.row.lt
 rw [hw1, hw2, hw3]
 clear b1 b2 b3 hb0 r1 r2 r3
 clear hw1 hw2 hw3 s1 s2
 go_step3
 go_wp2_with fail
 refine (tagged_any (some ⟨gs, 0, none⟩) n n 0 w3).mono ?_
 rintro e w5 ⟨rfl, hra, hrt, hb⟩
 have HH5 := Hi (HH.out.below hb)
 have HB5 := bt HB hb
 have R1 := Hi (R1.out.below hb)
 have R2 := Hi (R2.out.below hb)
 have R3 := Hi (R3.out.below hb)
 have hla := hra.lt
 have hlt := hrt.lt
 have hseq := tagged_seq (fun j => (j < W.heap.size + 1 ∨ W.heap.size + 1 + 1 < j) ∧ j < w5.heap.size) w3.heap.size (w3.heap.size + 1) (some ⟨gs, 0, none⟩) n 0 xs w5 (by rw [HH5.out.len]; exact row1 hra) (row1 hrt) hla hlt ⟨by omega, hlt⟩ (fun j hj => hj.2) (by rw [HH5.out.len]; exact HH5.out.rd) (fun p hp hpos => by
  injection hp with hp
  subst hp
  exact ⟨by show gs < _ ∨ _; omega, HH5.out.row.lt⟩) (by rw [HH5.out.len]; omega)
 rw [s3] at hseq hla hlt ⊢
 have HLEN := Hi HH5.out.len
 clear hb hra hrt hx0 HH
 go_wp2_with fail
 refine wp_range (gf := 96) (lb := #[.pointer (some ⟨W.heap.size + 1 + 1 + 1, 0, none⟩), .pointer (some ⟨W.heap.size + 1 + 1 + 1 + 1, 0, none⟩)]) rfl (enters_of Tryz.func96 (by kernel_rfl) rfl) hseq (W.heap.size + 1) (by omega) (fun j hj => hj.2) (Below.refl _ _) (fun _ => rfl)
  (TkI (W.heap.size + 1)) (TkX (W.heap.size + 1) 0) (TkI.stays _) (TkX.stays _ 0) ⟨rfl, R2.out, R3.out⟩
  (fun T x a' W2 => BoxAct W.heap.size #[12] (encEv x) 5 41 #[.int .i64 x.1, .int .u64 x.2] T a' W2) (fun T a' => BoxAct.stays W.heap.size #[12] encEv 5 41 (fun x => #[.int .i64 x.1, .int .u64 x.2]) T a') ?assign ?body ?done ?stop ?panic
 case assign =>
  intro l pre x W2 R hI hb hs hlen hR
  dsimp only [encEv] at hR ⊢
  gi_wp2
  refine hR _ _ (KeepsOthers.alloc _ _) ((Below.refl _ _).alloc (by omega) _) (fun j hj => Below.heap_alloc _ _ _ (by have := hj.2; omega)) (TkI.stays _ _ _ _ hI (CellsLie.of_below ((Below.refl _ _).alloc (Nat.le_refl _) _))) ⟨W2.heap.size, RowAt.new W2 41 _, by omega, by simp [encEv]⟩
 case body =>
  rintro l pre x a' W2 ⟨rfl, hr2, hr3⟩ ⟨Bx, hbx, hkx, rfl⟩ hb hs hlen
  dsimp only [encEv]
  have hbx' : RowAt W2 Bx 41 #[.int .i64 x.1, .int .u64 x.2] := hbx
  have e0 := row20 hbx'
  have e1 := row21 hbx'
  have HR2 := Hi hr2
  have HR3 := Hi hr3
  have p0 := hr2.cell 0
  have p1 := hr2.cell 1
  have f0 := hr2.frozen 0
  have f1 := hr2.frozen 1
  have q0 := row1 hr3
  have g0 := hr3.frozen 0
  simp only [List.getElem?_toArray, List.getElem?_cons_succ, List.getElem?_cons_zero] at p0 p1
  have l2 := hr2.lt
  have l3 := hr3.lt
  have lx := hbx'.lt
  clear hr2 hr3 hbx
  gi_wp2
  refine ⟨((KeepsOthers.setCell _ _ _).trans (KeepsOthers.setCell _ _ _)).trans (KeepsOthers.setCell _ _ _), (((Below.refl (W.heap.size + 1) W2).setCell (p := ⟨W.heap.size + 1, 0, none⟩) (Nat.le_refl _) _).setCell (p := ⟨W.heap.size + 1, 1, none⟩) (Nat.le_refl _) _).setCell (p := ⟨W.heap.size + 1 + 1, 0, none⟩) (by simp) _, rfl, x, rfl, ?_, ?_⟩
  · exact (((HR2.out.set 0 (.int .i64 x.1)).set 1 (.int .u64 x.2))).setNe (by omega)
  · exact ((HR3.out.setNe (by omega)).setNe (by omega)).set 0 (.bool true)
 case done =>
  rintro ys W2 hys ⟨rfl, hr2, hr3⟩ hb hs hD
  have q0 := row1 hr3
  have l3 := hr3.lt
  have HD := Hi hD
  have HBF := Hi (HB5.out.trans (hb.mono (by omega)))
  have HYS := Hi hys
  clear hr2 hr3 hb hD hys
  unfold marked
  go_wp2_with fail
  refine (need_no 6 _).mono ?_
  rintro e w6 ⟨rfl, rfl⟩
  go_wp2_with fail
  refine ⟨by simp, .inl ⟨_, _, rfl, run_takeDeferred HD.out, ?_⟩⟩
  exact .inl ⟨HYS.out.symm, rfl, HBF.out.trans (below_putObj (o := .deferred (some [])) _ (by have := HB5.out.size; omega))⟩
 case stop =>
  rintro c pre W2 ⟨r, hr⟩ ⟨rfl, x, rfl, hr2, hr3⟩ hb hs hD
  have HH2 : Hid (HandAt W2 gh gs n xs) := Hi ⟨HLEN.out, HH5.out.ne, (hb.block gh (by omega)).trans HH5.out.box, (hb.block gs (by omega)).trans HH5.out.row⟩
  have q0 := row1 hr3
  have l3 := hr3.lt
  have p0 := row20 hr2
  have p1 := row21 hr2
  have l2 := hr2.lt
  have HR1 := Hi ((hb.block W.heap.size (by omega)).trans R1.out)
  have HD := Hi hD
  have HBF := Hi (HB5.out.trans (hb.mono (by omega)))
  have HYS := Hi hr
  obtain ⟨x0, x1, hxk⟩ := ents_mem (show x ∈ ents xs 0 by rw [← hr]; simp)
  obtain ⟨t, g⟩ := x
  dsimp only at x0 x1 hxk p0 p1
  obtain ⟨k, rfl⟩ := Int.eq_ofNat_of_zero_le x0
  have hkn : k < n := by have := HLEN.out; omega
  have hkI : (k : Int) < (n : Int) := by omega
  have hx0 := row1 HH2.out.box
  have hlg := HH2.out.box.lt
  have hlr := HH2.out.row.lt
  have HXK := Hi hxk
  clear hb hr2 hr3 hr hD x1 hxk
  unfold marked
  go_wp2_with fail
  refine (need_ok 6 _).mono ?_
  rintro e w6 ⟨rfl, rfl⟩
  go_wp2_with fail
  refine wp_region_tail 9 (by kernel_rfl) (by kernel_rfl) ?_
  simp only [List.take_succ_cons, List.take_zero, List.drop_succ_cons, List.drop_zero]
  repeat (go_big_quiet_step (fail))
  refine tail_out fun w2 hb2 => ?_
  have HH3 := Hi (HH2.out.below hb2)
  have c0 := HH3.out.row.cell (k * 2)
  have f0 := HH3.out.row.frozen (k * 2)
  have l0 := HH3.out.row.lt
  have P0 := Hi (kept hb2 p0)
  have P1 := Hi (kept hb2 p1)
  have HR1 := Hi (RowAt.below HR1.out hb2)
  have HD2 := Hi ((hb2.block _ hs).trans HD.out)
  have HBF2 := bt HBF hb2
  have hsz2 := hb2.size
  clear hb2 p0 p1 q0 hx0
  have c1 := HH3.out.cell0 hkn
  have m0 := P0.out
  have m1 := P1.out
  have z0 := HR1.out.cell 0
  have z1 := HR1.out.cell 1
  have y0 := HR1.out.frozen 0
  have y1 := HR1.out.frozen 1
  simp only [List.getElem?_toArray, List.getElem?_cons_succ, List.getElem?_cons_zero] at z0 z1
  have n1 : ¬ gs = W.heap.size + 1 := by omega
  have n2 : ¬ W.heap.size + 1 = gs := by omega
  have n3 : ¬ gs = W.heap.size := by omega
  have n4 : ¬ W.heap.size = gs := by omega
  have l4 : W.heap.size + 1 < w2.heap.size := by omega
  have l5 : W.heap.size < w2.heap.size := by omega
  clear c0
  go_wp2_with fail
  rw [Exit.noGoto_ret]
  have hD9 : (((w2.setCell ⟨gs, k * 2, none⟩ (.int .i64 1)).setCell ⟨W.heap.size, 0, none⟩ (.int .i64 (k : Int))).setCell ⟨W.heap.size, 1, none⟩ (.int .u64 g)).heap[w5.heap.size]? = some (.deferred (some [])) := by
   have := HB5.out.size
   rw [heap_setCell_ne _ _ _ _ (by simp; omega), heap_setCell_ne _ _ _ _ (by simp; omega), heap_setCell_ne _ _ _ _ (by simp; omega)]
   exact HD2.out
  have hP7 : Past gs W (w2.setCell ⟨gs, k * 2, none⟩ (.int .i64 1)) := (Past.of_below hgsW HBF2.out).trans (Past.set _ _)
  have hB9 : Below W.heap.size (w2.setCell ⟨gs, k * 2, none⟩ (.int .i64 1)) ((((w2.setCell ⟨gs, k * 2, none⟩ (.int .i64 1)).setCell ⟨W.heap.size, 0, none⟩ (.int .i64 (k : Int))).setCell ⟨W.heap.size, 1, none⟩ (.int .u64 g)).putObj w5.heap.size (.deferred none)) :=
   (((Below.refl _ _).setCell (p := ⟨W.heap.size, 0, none⟩) (Nat.le_refl _) _).setCell (p := ⟨W.heap.size, 1, none⟩) (Nat.le_refl _) _).trans (below_putObj (o := .deferred (some [])) _ (by have := HB5.out.size; omega))
  have hrow7 : RowAt (w2.setCell ⟨gs, k * 2, none⟩ (.int .i64 1)) gs 84 (Cs encE (put1 1 xs ((k : Int), g))).toArray := by
   have h := HH3.out.row.set (k * 2) (.int .i64 1)
   rw [List.setIfInBounds_toArray, Cs_set0 xs k 1 (by rw [HLEN.out]; exact hkn)] at h
   have hg : (xs.getD k (0, 0)).2 = g := by
    have := HXK.out
    simp only [Int.toNat_natCast] at this
    rw [List.getD_eq_getElem?_getD, this]; rfl
   rw [hg] at h
   simpa [put1] using h
  refine ⟨by simp, .inl ⟨_, _, rfl, run_takeDeferred hD9, ?_⟩⟩
  have hr9 : RowAt ((((w2.setCell ⟨gs, k * 2, none⟩ (.int .i64 1)).setCell ⟨W.heap.size, 0, none⟩ (.int .i64 (k : Int))).setCell ⟨W.heap.size, 1, none⟩ (.int .u64 g)).putObj w5.heap.size (.deferred none)) W.heap.size 41 #[.int .i64 (k : Int), .int .u64 g] :=
   RowAt.lie (((HR1.out.setNe (by omega)).set 0 (.int .i64 (k : Int))).set 1 (.int .u64 g)) (CellsLie.putObj _ hD9 rfl)
  generalize ((((w2.setCell ⟨gs, k * 2, none⟩ (.int .i64 1)).setCell ⟨W.heap.size, 0, none⟩ (.int .i64 (k : Int))).setCell ⟨W.heap.size, 1, none⟩ (.int .u64 g)).putObj w5.heap.size (.deferred none)) = w9 at *
  refine ⟨.agg #[.int .i64 (k : Int), .int .u64 g], by simp [results, Tryz.results131, go_sem, row20 hr9, row21 hr9, hr9.lt], .inr ⟨_, r, HYS.out.symm, rfl, ⟨by rw [put1_length, HLEN.out], HH5.out.ne, ?_, ?_⟩, hP7.after hB9 (by omega) (Nat.le_refl _)⟩⟩
  · exact (hB9.block gh (by omega)).trans (HH3.out.box.setNe (Ne.symm HH5.out.ne))
  · exact (hB9.block gs (by omega)).trans hrow7
 case panic =>
  rintro pre W h
  exact h.elim
end Go.Proofs.YtkicidopjihjmaaGreat
namespace Go.Proofs.YtkicidopjihjmaaGreat
open Go Go.RowKit
theorem run_copy_sz {P : Program} (w : World) (dT sT ty elem : TypeId) (g n dCap sCap sz : Nat) (a : Addr) (cur : Array Value) (t : TypeId) (cs : List Value)
  (hu : P.underlying dT = some (.slice elem)) (hs : (P.info? elem).map (·.size) = some sz)
  (hg : w.heap[g]? = some (.cells cur t (0, 0))) (hn : cs.length = n * sz)
  (hsrc : ∀ j v, cs[j]? = some v → w.cell? (a.add j) = some v) (hfit : cs.length = cur.size) (h1 : ∀ v ∈ cs, v.oneCell' = true) :
  (Builtin.copy_ #[dT, sT] ty #[.slice (some ⟨g, 0, none⟩) n dCap, .slice (some a) n sCap]).run P w = .ok (goInt n) (w.setRow g cs.toArray) := by
 have hl := run_loadCells_list (P := P) w a cs hsrc
 have hst := run_storeCells_at P g 0 t cs 0 cur w hg (by omega) h1
 have hd : cur.toList.drop cs.length = [] := List.drop_of_length_le (by rw [hfit]; simp)
 cases hq : P.info? elem with
 | none => simp [hq] at hs
 | some i =>
  have hi : i.size = sz := by simpa [hq] using hs
  have hm : Nat.min n n = n := Nat.min_self n
  simp [hd] at hst
  simp [Builtin.copy_, run_underlying hu, Builtin.lenOf, Builtin.firstCells, sizeOf, typeInfo, hq, hi, ← hn, hl, hst, hm]
theorem wpList_copyRow {P : Program} {w : World} {ops : Array Oper} {rest : List Oper} {o : Oper} {a : Act} {Q : Exit → Act → World → Prop} (hgd : o.guard = none) (d s : Operand) (dT sT : TypeId)
  (ho : o.op = .call { callee := .builtin .copy, args := #[d, s], argTypes := #[dT, sT] }) (elem : TypeId) (sz : Nat) (hu : P.underlying dT = some (.slice elem)) (hsz : (P.info? elem).map (·.size) = some sz)
  (g n dCap sCap B : Nat) (A : Option Addr) (hd : a.eval d = .slice (some ⟨g, 0, none⟩) n dCap) (hs : a.eval s = .slice A n sCap) (hn0 : 0 < n)
  (cur : Array Value) (t : TypeId) (hg : RowAt w g t cur) (cs : List Value) (hr : Rd w B sz A n cs) (hfit : cs.length = cur.size) (h1 : ∀ v ∈ cs, v.oneCell' = true)
  (h : ∀ w', RowAt w' g t cs.toArray → Past g w w' → wpList P ops Q rest (a.put o.dst (goInt n)) w') : wpList P ops Q (o :: rest) a w := by
 obtain ⟨b, off, rfl, hb, hc⟩ := hr.2 hn0
 have hrun := run_copy_sz (P := P) w dT sT o.type elem g n dCap sCap sz ⟨b, off, none⟩ cur t cs hu hsz hg hr.1 (rd_cells hr hn0) hfit h1
 exact wpList_copy_runI w hgd d s dT sT ho _ _ hd hs hrun (h _ (setRow_heap w g _ _ t _ hg) (setRow_past w g _))
end Go.Proofs.YtkicidopjihjmaaGreat
namespace Go.Proofs.YtkicidopjihjmaaGreat
open Go Go.RowKit
attribute [local go_sem] via_cell via_frozen
@[local go_sem] theorem wpmf (fn : Fn) (first cap : Array Value) (w : World) : (Instr.makeFunc fn first cap).run Tryz.prog w = .ok (.func fn first cap) w := rfl
@[local go_sem] theorem assert_errno (k : Int) (W : World) : (Instr.typeAssert (.iface 44 (.int .i64 k)) 20 44 true).run Tryz.prog W = .ok (.tuple #[.int .i64 k, .bool true]) W := by
 simp [Instr.typeAssert]
theorem catch_idle (p q : Addr) (w : World) :
  CallsD Tryz.prog 151 #[.pointer (some p), .pointer (some q)] .returning w fun e u' w' => e = .returned (.tuple #[]) ∧ u' = .returning ∧ w' = w := by
 refine callsD_of_wpS Tryz.func151 rfl fun c₀ cs hu => ?_
 apply wpS_seq
 apply wpS_region
 simp [wpOpsS, go_sem, recoverD, hu, Tryz.ntmps151, Exit.thenS]
 refine wpS_of_wp ?_
 simp only [List.size_toArray, List.length_cons, List.length_nil, Nat.reduceAdd, Nat.reduceSub, Array.replicate_succ, Array.replicate_zero, List.push_toArray, List.append_toArray, List.nil_append, List.cons_append, List.setIfInBounds_toArray, List.set_cons_succ, List.set_cons_zero]
 go_wp2
 cases c₀
 simp_all [bodyPostS, results, Tryz.results151]
set_option maxRecDepth 100000 in
theorem catch_err (b1 b2 : Nat) (k : Int) (w : World) (h1 : RowAt w b1 24 #[.slice none 0 0]) (h2 : RowAt w b2 44 #[.int .i64 0]) (hne : b1 ≠ b2) :
  CallsD Tryz.prog 151 #[.pointer (some ⟨b1, 0, none⟩), .pointer (some ⟨b2, 0, none⟩)] (.panicking (errX k)) w fun e u' w' =>
   e = .returned (.tuple #[]) ∧ u' = .panicking [{ v := .iface 44 (.int .i64 k), recovered := true }] ∧ w' = (w.setCell ⟨b1, 0, none⟩ (.slice none 0 0)).setCell ⟨b2, 0, none⟩ (.int .i64 k) := by
 have c1 := row1 h1
 have c2 := row1 h2
 have f1 := h1.frozen 0
 have f2 := h2.frozen 0
 have hne2 : ¬ b1 = b2 := hne
 have hne3 : ¬ b2 = b1 := fun h => hne h.symm
 refine callsD_of_wpS Tryz.func151 rfl fun c₀ cs hu => ?_
 apply wpS_seq
 apply wpS_region
 simp [wpOpsS, go_sem, recoverD, hu, Tryz.ntmps151, Exit.thenS, errX]
 refine wpS_of_wp ?_
 simp only [List.size_toArray, List.length_cons, List.length_nil, Nat.reduceAdd, Nat.reduceSub, Array.replicate_succ, Array.replicate_zero, List.push_toArray, List.append_toArray, List.nil_append, List.cons_append, List.setIfInBounds_toArray, List.set_cons_succ, List.set_cons_zero]
 go_wp2
 simp [bodyPostS, results, Tryz.results151]
structure Past2 (p q : Nat) (w w' : World) : Prop where
 os : w'.os = w.os
 tape : w'.tape = w.tape
 output : w'.output = w.output
 size : w.heap.size ≤ w'.heap.size
 block : ∀ j, j ≠ p → j ≠ q → j < w.heap.size → w'.heap[j]? = w.heap[j]?
theorem Past2.refl (p q : Nat) (w : World) : Past2 p q w w := ⟨rfl, rfl, rfl, Nat.le_refl _, fun _ _ _ _ => rfl⟩
theorem Past2.trans {p q : Nat} {a b c : World} (h : Past2 p q a b) (g : Past2 p q b c) : Past2 p q a c :=
 ⟨g.os.trans h.os, g.tape.trans h.tape, g.output.trans h.output, Nat.le_trans h.size g.size, fun j h1 h2 hl => (g.block j h1 h2 (Nat.lt_of_lt_of_le hl h.size)).trans (h.block j h1 h2 hl)⟩
theorem Past2.of_below {p q : Nat} {a b : World} (h : Below a.heap.size a b) : Past2 p q a b := ⟨h.os, h.tape, h.output, h.size, fun j _ _ hl => h.block j hl⟩
theorem Past2.of_past {p q : Nat} {a b : World} (h : Past p a b) : Past2 p q a b := ⟨h.below.os, h.below.tape, h.below.output, h.size, fun j h1 _ hl => h.block j h1 hl⟩
theorem Past2.set1 {p q : Nat} {a : World} (o : Nat) (v : Value) : Past2 p q a (a.setCell ⟨p, o, none⟩ v) := Past2.of_past (Past.set o v)
theorem Past2.set2 {p q : Nat} {a : World} (o : Nat) (v : Value) : Past2 p q a (a.setCell ⟨q, o, none⟩ v) := by
 have h : Past q a (a.setCell ⟨q, o, none⟩ v) := Past.set o v
 exact ⟨h.below.os, h.below.tape, h.below.output, h.size, fun j _ h2 hl => h.block j h2 hl⟩
def DoesRes (kl gh gs n : Nat) (G : List (Int × Int) → Prop) (F : Int → Prop) (X : Nat → World → Prop) (w : World) (e : Ending) (w' : World) : Prop :=
 Past2 gs kl w w' ∧ ((e = .returned (.tuple #[]) ∧ ∃ ys, HandAt w' gh gs n ys ∧ G ys ∧ X w.heap.size w') ∨ (∃ k, e = .panicked (errX k) ∧ F k))
def TrRes (kl n : Nat) (G : List (Int × Int) → Prop) (F : Int → Prop) (X : Nat → World → Prop) (W : World) (e : Ending) (W' : World) : Prop :=
 Past2 kl kl W W' ∧ ((∃ (ys : List (Int × Int)) (gs : Nat), e = .returned (.tuple #[.agg #[.slice (some ⟨gs, 0, none⟩) n n], .int .i64 0]) ∧ Rd W' W'.heap.size 2 (some ⟨gs, 0, none⟩) n (Cs encE ys) ∧ RowAt W' gs 84 (Cs encE ys).toArray ∧ W.heap.size ≤ gs ∧ ys.length = n ∧ G ys ∧ ∃ b, W.heap.size ≤ b ∧ X b W') ∨
  (∃ k, e = .returned (.tuple #[.agg #[.slice none 0 0], .int .i64 k]) ∧ F k))
theorem tries_no (A : Option Addr) (c n : Nat) (g : Nat) (lb : Array Value) (xs : List (Int × Int)) (W : World) (h : Rd W W.heap.size 2 A n (Cs encE xs)) (hx : xs.length = n) (hn : n ≤ 4096) (ho : arOk xs = false) :
  Calls Tryz.prog 128 #[.agg #[.slice A n c], .func (.func g) #[] lb] W fun e W' => e = .returned (.tuple #[.agg #[.slice none 0 0], .int .i64 210]) ∧ Below W.heap.size W W' := by
 go_enter_defers Tryz.func128, Tryz.ntmps128
 go_wp2_with fail
 obtain ⟨w1, hw1⟩ : ∃ w1, W.alloc (.cells #[.slice A n c] 24) = w1 := ⟨_, rfl⟩
 obtain ⟨w2, hw2⟩ : ∃ w2, w1.alloc (.cells #[.slice none 0 0] 24) = w2 := ⟨_, rfl⟩
 obtain ⟨w3, hw3⟩ : ∃ w3, w2.alloc (.cells #[.int .i64 0] 44) = w3 := ⟨_, rfl⟩
 have s1 : w1.heap.size = W.heap.size + 1 := by rw [← hw1]; simp
 have s2 : w2.heap.size = W.heap.size + 1 + 1 := by rw [← hw2]; simp [s1]
 have b1 := baw hw1
 have b2 := baw hw2
 have b3 := baw hw3
 have r2 : RowAt w3 (W.heap.size + 1) 24 #[.slice none 0 0] := by have h := RowAt.new w1 24 #[.slice none 0 0]; rw [hw2, s1] at h; exact h.below b3
 have r3 : RowAt w3 (W.heap.size + 1 + 1) 44 #[.int .i64 0] := by have h := RowAt.new w2 44 #[.int .i64 0]; rw [hw3, s2] at h; exact h
 have hb0 : Below W.heap.size W w3 := (b1.trans (b2.mono b1.size)).trans (b3.mono (by omega))
 rw [hw1, hw2, hw3]
 have HC := Hi (check_any W.heap.size A c n xs w3 (h.below hb0) hx hb0.size _ (chk_no ho) (by omega))
 have HB := Hi hb0
 have R2 := Hi r2
 have R3 := Hi r3
 clear hw1 hw2 hw3 b1 b2 b3 hb0 r2 r3 h ho s1 s2
 refine HC.out.mono ?_
 rintro e w4 ⟨rfl, hb⟩
 have R2 := Hi (R2.out.below hb)
 have R3 := Hi (R3.out.below hb)
 have HB := bt HB hb
 clear hb
 go_wp2_with fail
 refine (need_no 210 _).mono ?_
 rintro e w5 ⟨rfl, rfl⟩
 dsimp only
 refine leaves_cons (f := 151) (args := #[.pointer (some ⟨W.heap.size + 1, 0, none⟩), .pointer (some ⟨W.heap.size + 1 + 1, 0, none⟩)]) (by simp) (by simp [go_sem]) ?_
 refine (catch_err (W.heap.size + 1) (W.heap.size + 1 + 1) 210 w4 R2.out R3.out (by omega)).mono ?_
 rintro e u' w'' ⟨rfl, rfl, rfl⟩
 have hr2 : RowAt ((w4.setCell ⟨W.heap.size + 1, 0, none⟩ (.slice none 0 0)).setCell ⟨W.heap.size + 1 + 1, 0, none⟩ (.int .i64 210)) (W.heap.size + 1) 24 #[.slice none 0 0] := (R2.out.set 0 (.slice none 0 0)).setNe (by omega)
 have hr3 : RowAt ((w4.setCell ⟨W.heap.size + 1, 0, none⟩ (.slice none 0 0)).setCell ⟨W.heap.size + 1 + 1, 0, none⟩ (.int .i64 210)) (W.heap.size + 1 + 1) 44 #[.int .i64 210] := (R3.out.setNe (by omega)).set 0 (.int .i64 210)
 have hb2 : Below W.heap.size w4 ((w4.setCell ⟨W.heap.size + 1, 0, none⟩ (.slice none 0 0)).setCell ⟨W.heap.size + 1 + 1, 0, none⟩ (.int .i64 210)) := ((Below.refl _ _).setCell (p := ⟨W.heap.size + 1, 0, none⟩) (by simp) _).setCell (p := ⟨W.heap.size + 1 + 1, 0, none⟩) (by simp; omega) _
 generalize (w4.setCell _ _).setCell _ _ = w9 at *
 simp [Leaves, settle, results, Tryz.results128, go_sem, row1 hr2, row1 hr3, hr2.lt, hr3.lt]
 exact HB.out.trans hb2
theorem tries_yes (kl n : Nat) (A : Option Addr) (c g : Nat) (lb : Array Value) (xs : List (Int × Int)) (W : World) (hg : ∀ args w, (callFunc g args).run Tryz.prog w = .ok (.enter g args) w) (h : Rd W W.heap.size 2 A n (Cs encE xs)) (hx : xs.length = n) (ho : arOk xs = true)
  (G : List (Int × Int) → Prop) (F : Int → Prop) (X : Nat → World → Prop) (hX : ∀ b w w', X b w → (∀ j, (b ≤ j ∨ j = kl) → j < w.heap.size → w'.heap[j]? = w.heap[j]?) → X b w') (hkl : kl ≤ W.heap.size)
  (HC : ∀ w gh gs, HandAt w gh gs n xs → Below W.heap.size W w → W.heap.size < gh → W.heap.size < gs → Calls Tryz.prog g (#[.pointer (some ⟨gh, 0, none⟩)] ++ lb) w (DoesRes kl gh gs n G F X w)) :
  Calls Tryz.prog 128 #[.agg #[.slice A n c], .func (.func g) #[] lb] W (TrRes kl n G F X W) := by
 have hn2 : 2 ≤ n := by have := (arOk_out ho).1; omega
 have hn : n ≤ 128 := by have := (arOk_out ho).2.1; omega
 obtain ⟨i0, hi0, hz0, hz1, hz2⟩ := info_parts elS.info
 have hmk := fun w => run_make_rowN (P := Tryz.prog) 22 84 i0 _ Tryz.underlying22 hi0 hz0 .i64 .i64 n n (Nat.le_refl _) (by rw [hz2]; omega) (by omega) w
 rw [hz1] at hmk
 have HCL := Hi HC
 have HX := Hi hX
 clear hi0 hz0 hz1 hz2 HC hX
 go_enter_defers Tryz.func128, Tryz.ntmps128
 go_wp2_with fail
 obtain ⟨w1, hw1⟩ : ∃ w1, W.alloc (.cells #[.slice A n c] 24) = w1 := ⟨_, rfl⟩
 obtain ⟨w2, hw2⟩ : ∃ w2, w1.alloc (.cells #[.slice none 0 0] 24) = w2 := ⟨_, rfl⟩
 obtain ⟨w3, hw3⟩ : ∃ w3, w2.alloc (.cells #[.int .i64 0] 44) = w3 := ⟨_, rfl⟩
 have s1 : w1.heap.size = W.heap.size + 1 := by rw [← hw1]; simp
 have s2 : w2.heap.size = W.heap.size + 1 + 1 := by rw [← hw2]; simp [s1]
 have b1 := baw hw1
 have b2 := baw hw2
 have b3 := baw hw3
 have r1 : RowAt w3 W.heap.size 24 #[.slice A n c] := by have h := RowAt.new W 24 #[.slice A n c]; rw [hw1] at h; exact (h.below b2).below b3
 have r2 : RowAt w3 (W.heap.size + 1) 24 #[.slice none 0 0] := by have h := RowAt.new w1 24 #[.slice none 0 0]; rw [hw2, s1] at h; exact h.below b3
 have r3 : RowAt w3 (W.heap.size + 1 + 1) 44 #[.int .i64 0] := by have h := RowAt.new w2 44 #[.int .i64 0]; rw [hw3, s2] at h; exact h
 have hb0 : Below W.heap.size W w3 := (b1.trans (b2.mono b1.size)).trans (b3.mono (by omega))
 rw [hw1, hw2, hw3]
 have HC := Hi (check_any W.heap.size A c n xs w3 (h.below hb0) hx hb0.size _ (chk_ok ho) (by omega))
 have HB := Hi hb0
 have HR := Hi h
 have R1 := Hi r1
 have R2 := Hi r2
 have R3 := Hi r3
 clear hw1 hw2 hw3 b1 b2 b3 hb0 r1 r2 r3 h ho s1 s2
 refine HC.out.mono ?_
 rintro e w4 ⟨rfl, hb⟩
 have R1 := Hi (R1.out.below hb)
 have R2 := Hi (R2.out.below hb)
 have R3 := Hi (R3.out.below hb)
 have HB := bt HB hb
 clear hb HC
 have a0 := row1 R1.out
 have la := R1.out.lt
 go_wp2_with fail
 refine (need_ok 210 _).mono ?_
 rintro e w5 ⟨rfl, rfl⟩
 dsimp only
 go_wp2_with fail
 obtain ⟨gs, hgs⟩ : ∃ gs, w4.heap.size = gs := ⟨_, rfl⟩
 obtain ⟨M, hM⟩ : ∃ M, madeCells #[.int .i64 0, .int .u64 0] (n * 2) = M := ⟨_, rfl⟩
 have hMs : M.size = n * 2 := by rw [← hM]; simp [madeCells]
 have hgsW : W.heap.size + 1 + 1 < gs := by rw [← hgs]; exact R3.out.lt
 rw [hM]
 obtain ⟨w5, hw5⟩ : ∃ w5, w4.alloc (.cells M 84) = w5 := ⟨_, rfl⟩
 obtain ⟨w6, hw6⟩ : ∃ w6, w5.alloc (.cells #[.slice (some ⟨gs, 0, none⟩) n n] 169) = w6 := ⟨_, rfl⟩
 have s5 : w5.heap.size = gs + 1 := by rw [← hw5]; simp [hgs]
 have s6 : w6.heap.size = gs + 1 + 1 := by rw [← hw6]; simp [s5]
 have b5 := baw hw5
 have b6 := baw hw6
 have r5 : RowAt w6 gs 84 M := by have h := RowAt.new w4 84 M; rw [hw5, hgs] at h; exact h.below b6
 have r6 : RowAt w6 (gs + 1) 169 #[.slice (some ⟨gs, 0, none⟩) n n] := by have h := RowAt.new w5 169 #[.slice (some ⟨gs, 0, none⟩) n n]; rw [hw6, s5] at h; exact h
 have b46 : Below w4.heap.size w4 w6 := b5.trans (b6.mono b5.size)
 have R1 := Hi (R1.out.below b46)
 have R2 := Hi (R2.out.below b46)
 have R3 := Hi (R3.out.below b46)
 have HB := bt HB b46
 rw [hgs, hw5, hw6]
 have a0 := row1 R1.out
 have x0 := row1 r6
 have la := R1.out.lt
 have lx := r6.lt
 have HR5 := Hi r5
 have HR6 := Hi r6
 have HRD := Hi (HR.out.below HB.out)
 clear hw5 hw6 s5 s6 hgs b5 b6 b46 r5 r6 hmk hM
 refine wp_region_tail 7 (by kernel_rfl) (by kernel_rfl) ?_
 simp only [List.take_succ_cons, List.take_zero, List.drop_succ_cons, List.drop_zero]
 repeat (go_big_quiet_step (fail))
 refine tail_out fun w7 hb7 => ?_
 have hl7 := hb7.size
 refine wpList_copyRow rfl _ _ 22 22 rfl 84 2 Tryz.underlying22 (by kernel_rfl) gs n n c W.heap.size A rfl rfl (by omega) M 84 (HR5.out.below hb7) (Cs encE xs) (HRD.out.below (hb7.mono HB.out.size)) (by rw [HRD.out.1, hMs]) (Cs_one_cell encE_one _) ?_
 intro w8 hrow8 hp8
 have hsz8 := hp8.size
 have hx6 : RowAt w8 (gs + 1) 169 #[.slice (some ⟨gs, 0, none⟩) n n] := (hp8.block _ (by omega) (by omega)).trans (HR6.out.below hb7)
 have HH8 := Hi (show HandAt w8 (gs + 1) gs n xs from ⟨hx, by omega, hx6, hrow8⟩)
 have R2 := Hi (show RowAt w8 (W.heap.size + 1) 24 #[.slice none 0 0] from (hp8.block _ (by omega) (by omega)).trans (R2.out.below hb7))
 have R3 := Hi (show RowAt w8 (W.heap.size + 1 + 1) 44 #[.int .i64 0] from (hp8.block _ (by omega) (by omega)).trans (R3.out.below hb7))
 have HB := Hi ((HB.out.trans (hb7.mono HB.out.size)).trans (hp8.below.mono (by omega)))
 have HCC := Hi (HCL.out w8 (gs + 1) gs HH8.out HB.out (by omega) (by omega))
 have hs8 : W.heap.size + 1 + 1 < w8.heap.size := R3.out.lt
 clear a0 x0 la lx HR5 HR6 HRD hb7 hrow8 hp8 hx6 R1 HR HCL hl7
 go_wp2_with fail
 refine HCC.out.mono ?_
 rintro e w9 ⟨hp9, hres⟩
 have R2 := Hi (show RowAt w9 (W.heap.size + 1) 24 #[.slice none 0 0] from (hp9.block _ (by omega) (by omega) (by omega)).trans R2.out)
 have R3 := Hi (show RowAt w9 (W.heap.size + 1 + 1) 44 #[.int .i64 0] from (hp9.block _ (by omega) (by omega) (by omega)).trans R3.out)
 have HP9 := Hi hp9
 have HFIN : Hid (∀ v1 v2, Past2 kl kl W ((w9.setCell ⟨W.heap.size + 1, 0, none⟩ v1).setCell ⟨W.heap.size + 1 + 1, 0, none⟩ v2)) := Hi (fun v1 v2 => ⟨hp9.os.trans HB.out.os, hp9.tape.trans HB.out.tape, hp9.output.trans HB.out.output, by have := hp9.size; have := HB.out.size; simp; omega, fun j hj _ hl => by
  rw [heap_setCell_ne _ _ _ _ (by simp; omega), heap_setCell_ne _ _ _ _ (by simp; omega), hp9.block j (by omega) hj (by have := HB.out.size; omega)]
  exact HB.out.block j hl⟩)
 have hl9 : W.heap.size + 1 + 1 < w9.heap.size := R3.out.lt
 have c2 := row1 R2.out
 have c3 := row1 R3.out
 have f2 := R2.out.frozen 0
 have f3 := R3.out.frozen 0
 clear hp9
 rcases hres with ⟨rfl, ys, hh9, hG, hX9⟩ | ⟨k, rfl, hF⟩
 ·
  have HH9 := Hi hh9
  have HX9 := Hi hX9
  have d0 := row1 hh9.box
  have dl := hh9.box.lt
  clear hh9 hX9
  go_wp2_with fail
  refine leaves_cons (f := 151) (args := #[.pointer (some ⟨W.heap.size + 1, 0, none⟩), .pointer (some ⟨W.heap.size + 1 + 1, 0, none⟩)]) (by simp) (by simp [go_sem]) ?_
  refine (catch_idle ⟨W.heap.size + 1, 0, none⟩ ⟨W.heap.size + 1 + 1, 0, none⟩ _).mono ?_
  rintro e u' w'' ⟨rfl, rfl, rfl⟩
  have hr2 : RowAt ((w9.setCell ⟨W.heap.size + 1, 0, none⟩ (.slice (some ⟨gs, 0, none⟩) n n)).setCell ⟨W.heap.size + 1 + 1, 0, none⟩ (.int .i64 0)) (W.heap.size + 1) 24 #[.slice (some ⟨gs, 0, none⟩) n n] := (R2.out.set 0 _).setNe (by omega)
  have hr3 : RowAt ((w9.setCell ⟨W.heap.size + 1, 0, none⟩ (.slice (some ⟨gs, 0, none⟩) n n)).setCell ⟨W.heap.size + 1 + 1, 0, none⟩ (.int .i64 0)) (W.heap.size + 1 + 1) 44 #[.int .i64 0] := (R3.out.setNe (by omega)).set 0 _
  have hfin := HFIN.out (.slice (some ⟨gs, 0, none⟩) n n) (.int .i64 0)
  have hXf := HX.out _ _ ((w9.setCell ⟨W.heap.size + 1, 0, none⟩ (.slice (some ⟨gs, 0, none⟩) n n)).setCell ⟨W.heap.size + 1 + 1, 0, none⟩ (.int .i64 0)) HX9.out (fun j hj hl => by
   rw [heap_setCell_ne _ _ _ _ (by simp; omega), heap_setCell_ne _ _ _ _ (by simp; omega)])
  have hrow : RowAt ((w9.setCell ⟨W.heap.size + 1, 0, none⟩ (.slice (some ⟨gs, 0, none⟩) n n)).setCell ⟨W.heap.size + 1 + 1, 0, none⟩ (.int .i64 0)) gs 84 (Cs encE ys).toArray := (HH9.out.row.setNe (by omega)).setNe (by omega)
  have hrd : Rd ((w9.setCell ⟨W.heap.size + 1, 0, none⟩ (.slice (some ⟨gs, 0, none⟩) n n)).setCell ⟨W.heap.size + 1 + 1, 0, none⟩ (.int .i64 0)) ((w9.setCell ⟨W.heap.size + 1, 0, none⟩ (.slice (some ⟨gs, 0, none⟩) n n)).setCell ⟨W.heap.size + 1 + 1, 0, none⟩ (.int .i64 0)).heap.size 2 (some ⟨gs, 0, none⟩) n (Cs encE ys) := by
   refine ⟨by rw [Cs_length encE_len, HH9.out.len], fun _ => ⟨gs, 0, rfl, hrow.lt, fun j u hu => ?_⟩⟩
   rw [Nat.zero_add, hrow.cell]
   simpa using hu
  generalize (w9.setCell _ _).setCell _ _ = wF at *
  simp [Leaves, settle, results, Tryz.results128, go_sem, row1 hr2, row1 hr3, hr2.lt, hr3.lt]
  exact ⟨hfin, .inl ⟨ys, gs, rfl, hrd, hrow, by omega, HH9.out.len, hG, _, by omega, hXf⟩⟩
 ·
  dsimp only
  refine leaves_cons (f := 151) (args := #[.pointer (some ⟨W.heap.size + 1, 0, none⟩), .pointer (some ⟨W.heap.size + 1 + 1, 0, none⟩)]) (by simp) (by simp [go_sem]) ?_
  refine (catch_err (W.heap.size + 1) (W.heap.size + 1 + 1) k w9 R2.out R3.out (by omega)).mono ?_
  rintro e u' w'' ⟨rfl, rfl, rfl⟩
  have hr2 : RowAt ((w9.setCell ⟨W.heap.size + 1, 0, none⟩ (.slice none 0 0)).setCell ⟨W.heap.size + 1 + 1, 0, none⟩ (.int .i64 k)) (W.heap.size + 1) 24 #[.slice none 0 0] := (R2.out.set 0 (.slice none 0 0)).setNe (by omega)
  have hr3 : RowAt ((w9.setCell ⟨W.heap.size + 1, 0, none⟩ (.slice none 0 0)).setCell ⟨W.heap.size + 1 + 1, 0, none⟩ (.int .i64 k)) (W.heap.size + 1 + 1) 44 #[.int .i64 k] := (R3.out.setNe (by omega)).set 0 (.int .i64 k)
  have hfin := HFIN.out (.slice none 0 0) (.int .i64 k)
  generalize (w9.setCell _ _).setCell _ _ = wF at *
  simp [Leaves, settle, results, Tryz.results128, go_sem, row1 hr2, row1 hr3, hr2.lt, hr3.lt]
  exact ⟨hfin, .inr ⟨k, rfl, hF⟩⟩
theorem retS_append : ∀ (l m xs : List (Int × Int)), retS xs (l ++ m) = (retS xs l).bind fun ys => retS ys m
 | [], m, xs => by simp [retS]
 | e :: l, m, xs => by
  simp only [List.cons_append, retS]
  by_cases h : meantB xs e = true ∧ tagOf xs e = 1
  · rw [if_pos h, if_pos h]; exact retS_append l m _
  · rw [if_neg h, if_neg h]; rfl
theorem givS_append : ∀ (l m xs : List (Int × Int)), givS xs (l ++ m) = match givS xs l with | .ok ys => givS ys m | .error k => .error k
 | [], m, xs => by simp [givS]
 | e :: l, m, xs => by
  simp only [List.cons_append, givS]
  by_cases h : meantB xs e = true ∧ tagOf xs e ≠ 0
  ·
   rw [if_pos h, if_pos h]
   by_cases hg : e.2 < 1099511627775
   · rw [if_pos hg, if_pos hg]; exact givS_append l m _
   · rw [if_neg hg, if_neg hg]
  · rw [if_neg h, if_neg h]
theorem take_split {α : Type} (l : List α) (j : Nat) (hj : j < l.length) : l = l.take j ++ (l[j] :: l.drop (j + 1)) := by
 exact (List.take_append_drop j l).symm.trans (by rw [List.drop_eq_getElem_cons hj])
theorem retire1_any (kl gh gs gl n m c B : Nat) (A : Option Addr) (l xs : List (Int × Int)) (w : World) (h : HandAt w gh gs n xs) (hn : n ≤ 4096) (hl : RowAt w gl 29 #[.slice A m c]) (hr : Rd w B 2 A m (Cs encE l)) (hlm : l.length = m) (hm : m ≤ 4096) (hBs : B ≤ gs) (hBw : B ≤ w.heap.size) (hne : gl ≠ gs) :
  Calls Tryz.prog 134 #[.pointer (some ⟨gh, 0, none⟩), .pointer (some ⟨gl, 0, none⟩)] w (DoesRes kl gh gs n (fun ys => retS xs l = some ys) (fun k => k = 4 ∧ retS xs l = none) (fun _ _ => True) w) := by
 subst hlm
 have HH := Hi h
 have HR := Hi hr
 have d0 := row1 hl
 have hll := hl.lt
 have hgs := h.row.lt
 clear h hr
 go_enter Tryz.func134, Tryz.ntmps134
 go_wp2_with fail
 go_loopw [7] (fun i wr => ∃ (j : Nat) (ys : List (Int × Int)), j ≤ l.length ∧ i = .int .i64 j ∧ retS xs (l.take j) = some ys ∧ HandAt wr gh gs n ys ∧ Past gs w wr) (fun i _ => l.length - (intOf i).toNat)
 case atStart => exact ⟨0, xs, Nat.zero_le _, rfl, by simp [retS], HH.out, Past.refl _ _⟩
 case round =>
  obtain ⟨j, ys, hj, rfl, hret, hhj, hpj⟩ := hrel
  have HRT := Hi hret
  have HHJ := Hi hhj
  have HPJ := Hi hpj
  have hsz := hpj.size
  clear hret hhj hpj
  by_cases hlt : j < l.length
  ·
   obtain ⟨b1, o1, rfl, hb1, hc1⟩ := (HR.out.keep (w' := wr) (fun p hp => HPJ.out.cell p (by omega) (by omega))).elem encE_len hlt
   have hd10 := hc1 0 _ (by omega) rfl
   have hd11 := hc1 1 _ (by omega) rfl
   simp only [Nat.add_zero] at hd10
   have hbl1 : b1 < wr.heap.size := by omega
   have HS := Hi (List.take_succ_eq_append_getElem hlt)
   have HSP := Hi (take_split l j hlt)
   clear hc1
   generalize l[j] = x at *
   obtain ⟨s, g⟩ := x
   dsimp only at hd10 hd11
   have hbn : Below wr.heap.size wr ((wr.alloc (.cells #[.int .i64 s, .int .u64 g] 41)).alloc (.cells #[.int .i64 1] 3)) := ((Below.refl _ _).alloc (Nat.le_refl _) _).alloc (by simp) _
   have hrT := Rd.new (wr.alloc (.cells #[.int .i64 s, .int .u64 g] 41)) #[.int .i64 1] 3 1 1 rfl
   rw [World.size_alloc] at hrT
   have HSL := Hi (slab_any gh gs n 1 1 (some ⟨wr.heap.size + 1, 0, none⟩) s g [1] ys _ (HHJ.out.below hbn) hn (by rw [World.size_alloc, World.size_alloc]; exact hrT) rfl (by omega))
   have HBN := Hi hbn
   clear hbn hrT
   go_wp2_with fail
   refine HSL.out.mono ?_
   rintro e w1 ⟨hb, hres⟩
   have HB1 := bt HBN hb
   have HH1 := Hi (HHJ.out.below HB1.out)
   clear hb HSL
   rcases hres with ⟨hm1, ht1, rfl⟩ | ⟨hno, rfl⟩
   ·
    obtain ⟨k, hk, hkl, hg⟩ := meantB_out hm1
    dsimp only at hk hg
    subst hk
    have hkn : k < n := by have := HHJ.out.len; omega
    have c0 := HH1.out.cell0 hkn
    have f0 := HH1.out.row.frozen (k * 2)
    have hl1 := HH1.out.row.lt
    have HM := Hi hm1
    have HT := Hi (show tagOf ys ((k : Int), g) = 1 by simpa [eq_comm] using ht1)
    have HG := Hi hg
    clear hm1 ht1 hg
    simp only [Int.toNat_natCast]
    go_wp2_with fail
    go_roundw
    case rel =>
     refine ⟨j + 1, put1 2 ys ((k : Int), g), by omega, by go_num, ?_, ⟨by rw [put1_length, HHJ.out.len], HHJ.out.ne, ?_, ?_⟩, (HPJ.out.trans (Past.of_below (by omega) HB1.out)).trans (Past.set _ _)⟩
     ·
      rw [HS.out, retS_append, HRT.out]
      simp [retS, HM.out, HT.out]
     · exact HH1.out.box.setNe (Ne.symm HHJ.out.ne)
     ·
      have h := HH1.out.row.set (k * 2) (.int .i64 2)
      rw [List.setIfInBounds_toArray, Cs_set0 ys k 2 (by rw [HHJ.out.len]; exact hkn), HG.out] at h
      simpa [put1] using h
    case measure => simp [intOf]; omega
   ·
    go_wp2_with fail
    refine ⟨rfl, Past2.of_past (HPJ.out.trans (Past.of_below (by omega) HB1.out)), .inr ⟨4, rfl, rfl, ?_⟩⟩
    rw [HSP.out, retS_append, HRT.out]
    simp only [Option.bind_some, retS]
    rw [if_neg]
    rintro ⟨h1, h2⟩
    rw [h1, h2] at hno
    simp at hno
  ·
   go_wp2_with fail
   go_end0
   have h := HRT.out
   rw [List.take_of_length_le (by omega)] at h
   exact ⟨Past2.of_past HPJ.out, .inl ⟨rfl, ys, HHJ.out, h, trivial⟩⟩
theorem give1_any (kl gh gs gl n m c B : Nat) (A : Option Addr) (l xs : List (Int × Int)) (w : World) (h : HandAt w gh gs n xs) (ho : arOk xs = true) (hl : RowAt w gl 29 #[.slice A m c]) (hr : Rd w B 2 A m (Cs encE l)) (hu : ∀ e ∈ l, U64 e.2) (hlm : l.length = m) (hm : m ≤ 4096) (hBs : B ≤ gs) (hBw : B ≤ w.heap.size) (hne : gl ≠ gs) :
  Calls Tryz.prog 132 #[.pointer (some ⟨gh, 0, none⟩), .pointer (some ⟨gl, 0, none⟩)] w (DoesRes kl gh gs n (fun ys => givS xs l = .ok ys) (fun k => givS xs l = .error k) (fun _ _ => True) w) := by
 subst hlm
 have hn : n ≤ 4096 := by have := (arOk_out ho).2.1; have := h.len; omega
 have HH := Hi h
 have HR := Hi hr
 have HO := Hi ho
 have HU := Hi hu
 have d0 := row1 hl
 have hll := hl.lt
 have hgs := h.row.lt
 clear h hr ho hu
 go_enter Tryz.func132, Tryz.ntmps132
 go_wp2_with fail
 go_loopw [8] (fun i wr => ∃ (j : Nat) (ys : List (Int × Int)), j ≤ l.length ∧ i = .int .i64 j ∧ givS xs (l.take j) = .ok ys ∧ HandAt wr gh gs n ys ∧ Past gs w wr) (fun i _ => l.length - (intOf i).toNat)
 case atStart => exact ⟨0, xs, Nat.zero_le _, rfl, by simp [givS], HH.out, Past.refl _ _⟩
 case round =>
  obtain ⟨j, ys, hj, rfl, hret, hhj, hpj⟩ := hrel
  have HRT := Hi hret
  have HHJ := Hi hhj
  have HPJ := Hi hpj
  have HOY := Hi (arOk_giv _ _ _ HO.out hret)
  have hsz := hpj.size
  clear hret hhj hpj
  by_cases hlt : j < l.length
  ·
   obtain ⟨b1, o1, rfl, hb1, hc1⟩ := (HR.out.keep (w' := wr) (fun p hp => HPJ.out.cell p (by omega) (by omega))).elem encE_len hlt
   have hd10 := hc1 0 _ (by omega) rfl
   have hd11 := hc1 1 _ (by omega) rfl
   simp only [Nat.add_zero] at hd10
   have hbl1 : b1 < wr.heap.size := by omega
   have HS := Hi (List.take_succ_eq_append_getElem hlt)
   have HSP := Hi (take_split l j hlt)
   have HUX := Hi (HU.out _ (List.getElem_mem hlt))
   clear hc1
   generalize l[j] = x at *
   obtain ⟨s, g⟩ := x
   dsimp only at hd10 hd11 HUX
   have hbn : Below wr.heap.size wr ((wr.alloc (.cells #[.int .i64 s, .int .u64 g] 41)).alloc (.cells #[.int .i64 1, .int .i64 2] 3)) := ((Below.refl _ _).alloc (Nat.le_refl _) _).alloc (by simp) _
   have hrT := Rd.new (wr.alloc (.cells #[.int .i64 s, .int .u64 g] 41)) #[.int .i64 1, .int .i64 2] 3 1 2 rfl
   rw [World.size_alloc] at hrT
   have HSL := Hi (slab_any gh gs n 2 2 (some ⟨wr.heap.size + 1, 0, none⟩) s g [1, 2] ys _ (HHJ.out.below hbn) hn (by rw [World.size_alloc, World.size_alloc]; exact hrT) rfl (by omega))
   have HBN := Hi hbn
   clear hbn hrT
   go_wp2_with fail
   refine HSL.out.mono ?_
   rintro e w1 ⟨hb, hres⟩
   have HB1 := bt HBN hb
   have HH1 := Hi (HHJ.out.below HB1.out)
   clear hb HSL
   rcases hres with ⟨hm1, ht1, rfl⟩ | ⟨hno, rfl⟩
   ·
    obtain ⟨k, hk, hkl, hg⟩ := meantB_out hm1
    dsimp only at hk hg
    subst hk
    have hkn : k < n := by have := HHJ.out.len; omega
    have c0 := HH1.out.cell0 hkn
    have c1 := HH1.out.cell1 hkn
    rw [hg] at c1
    have f0 := HH1.out.row.frozen (k * 2)
    have f1 := HH1.out.row.frozen (k * 2 + 1)
    have hl1 := HH1.out.row.lt
    have HM := Hi hm1
    have HT := Hi (show tagOf ys ((k : Int), g) ≠ 0 by intro h; rw [h] at ht1; simp at ht1)
    have HG := Hi hg
    clear hm1 ht1 hg
    simp only [Int.toNat_natCast]
    by_cases hgm : g < 1099511627775
    ·
     have g0 := HUX.out.1
     have g0' : (0 : Int) ≤ g + 1 := by omega
     have g1' : g + 1 < 18446744073709551616 := by omega
     go_wp2_with fail
     refine (need_ok 6 _).mono ?_
     rintro e w5 ⟨rfl, rfl⟩
     dsimp only
     go_wp2_with fail
     go_roundw
     case rel =>
      refine ⟨j + 1, ys.set k (0, g + 1), by omega, by go_num, ?_, ⟨by rw [List.length_set, HHJ.out.len], HHJ.out.ne, ?_, ?_⟩, ((HPJ.out.trans (Past.of_below (by omega) HB1.out)).trans (Past.set _ _)).trans (Past.set _ _)⟩
      ·
       rw [HS.out, givS_append, HRT.out]
       simp [givS, HM.out, HT.out, hgm]
      · exact (HH1.out.box.setNe (Ne.symm HHJ.out.ne)).setNe (Ne.symm HHJ.out.ne)
      ·
       have h := (HH1.out.row.set (k * 2) (.int .i64 0)).set (k * 2 + 1) (.int .u64 (g + 1))
       have hk' : k < ys.length := by rw [HHJ.out.len]; exact hkn
       rw [List.setIfInBounds_toArray, List.setIfInBounds_toArray, Cs_set0 ys k 0 hk', Cs_set1 _ k (g + 1) (by simpa using hk')] at h
       simpa [hk'] using h
     case measure => simp [intOf]; omega
    ·
     have hgm' : decide (g < 1099511627775) = false := by simp; omega
     go_wp2_with fail
     refine (need_no 6 _).mono ?_
     rintro e w5 ⟨rfl, rfl⟩
     dsimp only
     refine ⟨rfl, Past2.of_past (HPJ.out.trans (Past.of_below (by omega) HB1.out)), .inr ⟨6, rfl, ?_⟩⟩
     show givS xs l = .error 6
     rw [HSP.out, givS_append, HRT.out]
     simp [givS, HM.out, HT.out, hgm]
     exact fun h => by omega
   ·
    go_wp2_with fail
    refine ⟨rfl, Past2.of_past (HPJ.out.trans (Past.of_below (by omega) HB1.out)), .inr ⟨4, rfl, ?_⟩⟩
    show givS xs l = .error 4
    rw [HSP.out, givS_append, HRT.out]
    simp only [givS]
    rw [if_neg]
    rintro ⟨h1, h2⟩
    obtain ⟨k, hk, hkl, hg⟩ := meantB_out h1
    dsimp only at hk
    have hok := slabOk_out (arOk_at HOY.out hkl)
    rw [h1, Bool.true_and] at hno
    have ht : tagOf ys (s, g) = (ys.getD k (0, 0)).1 := by rw [hk]; simp [tagOf]
    obtain ⟨t, htt⟩ : ∃ t, (ys.getD k (0, 0)).1 = t := ⟨_, rfl⟩
    rw [ht, htt] at hno h2
    rw [htt] at hok
    simp at hno
    omega
  ·
   go_wp2_with fail
   go_end0
   have h := HRT.out
   rw [List.take_of_length_le (by omega)] at h
   exact ⟨Past2.of_past HPJ.out, .inl ⟨rfl, ys, HHJ.out, h, trivial⟩⟩
theorem tkH {P : Program} {md : Region.Mode} {ops : Array Oper} {Q : Exit → Act → World → Prop} {S : World → Prop} {i : Nat} {oi : Oper} {v : Value} {fuel : Nat} {listed : Array Bool} {a : Act} {w : World} (hi : ops[i]? = some oi) (hy : YieldsIf P ops S oi v a)
  (h : wpAnyH P md ops Q S fuel (listed.setIfInBounds i true) (a.put oi.dst v) w) (hs : Region.noSelect ops = true := by kernel_rfl) (hf : Region.free md ops listed i = true := by kernel_rfl) (hr : (Region.ready md ops listed).contains i = true := by kernel_rfl)
  (hQ : ∀ c a w, Q (.panic c) (a.put oi.dst v) w → Q (.panic c) a w := by exact fun _ _ _ h => h) (hS : S w := by assumption) : wpAnyH P md ops Q S (fuel + 1) listed a w := wpAnyH_take hi hs hf hr hQ hy hS h
theorem tkI {P : Program} {md : Region.Mode} {ops : Array Oper} {Q : Exit → Act → World → Prop} {S : World → Prop} {i : Nat} {oi : Oper} {v : Value} {fuel : Nat} {listed : Array Bool} {a a2 : Act} {w : World} (hi : ops[i]? = some oi) (h : wpAnyH P md ops Q S fuel (listed.setIfInBounds i true) a2 w)
  (hs : Region.noSelect ops = true := by kernel_rfl) (hf : Region.free md ops listed i = true := by kernel_rfl) (hr : (Region.ready md ops listed).contains i = true := by kernel_rfl) (hS : S w := by assumption)
  (hy : YieldsIf P ops S oi v a := by refine Or.inl ⟨by rfl, ?_⟩; intro w hSw; (try dsimp only at hSw); (repeat (have hSx := And.left hSw; replace hSw := And.right hSw)); go_simp; first | done | with_reducible rfl)
  (hn : a.put oi.dst v = a2 := by first | (simp only [Act.put, Na, Nb, Nc, Nd, Nx, Nf]; done) | (simp only [Act.put, Na, Nb, Nc, Nd, Nx, Nf]; rfl) | rfl) (hQ : ∀ c a w, Q (.panic c) (a.put oi.dst v) w → Q (.panic c) a w := by exact fun _ _ _ h => h) : wpAnyH P md ops Q S (fuel + 1) listed a w := wpAnyH_take hi hs hf hr hQ hy hS (by rw [hn]; exact h)
theorem ryH {P : Program} {md : Region.Mode} {ops : Array Oper} {Q : Exit → Act → World → Prop} {S : World → Prop} {i : Nat} {o : Oper} {fuel : Nat} {listed : Array Bool} {a : Act} {w : World} (ho : ops[i]? = some o) (h : ∀ K' : Act → World → Prop, Shut (∀ a w, S w → (S w → wpAnyH P md ops Q S fuel (listed.setIfInBounds i true) a w) → K' a w) → if Region.wanted o (yielded ops a.tmps) = true then Oper.wp P o a w K' Q else K' (a.put o.dst undef) w) (hr : Region.ready md ops listed = [i] := by kernel_rfl) : wpAnyH P md ops Q S (fuel + 1) listed a w := wpAnyH_ready hr (by simp) (.cons ho h .nil)
theorem wnH {P : Program} {md : Region.Mode} {ops : Array Oper} {Q : Exit → Act → World → Prop} {S : World → Prop} {fuel : Nat} {listed : Array Bool} {a a2 : Act} {w : World} (h : wpAnyH P md ops Q S fuel listed a2 w) (hn : a = a2 := by first | (simp only [Act.put, Na, Nb, Nc, Nd, Nx, Nf]; done) | (simp only [Act.put, Na, Nb, Nc, Nd, Nx, Nf]; rfl) | rfl) : wpAnyH P md ops Q S fuel listed a w := by rw [hn]; exact h
def TakeG (xs : List (Int × Int)) (many : Int) (ys : List (Int × Int)) : Prop := ∃ m : Nat, many = m ∧ m ≤ (ents xs 0).length ∧ ys = tk xs m
def TakeF (xs : List (Int × Int)) (many : Int) (k : Int) : Prop := (many < 0 ∧ k = 2) ∨ (0 ≤ many ∧ ((ents xs 0).length : Int) < many ∧ k = 6)
def TakeX (xs : List (Int × Int)) (many : Int) (gl : Nat) (b : Nat) (w : World) : Prop := ∃ (m : Nat) (v : Value), many = m ∧ RowBox w gl 29 b 41 2 m v (Cs encE ((ents xs 0).take m))
theorem RowBox.past {w w' : World} {g : Nat} {t : TypeId} {base E sz n : Nat} {v : Value} {xs : List Value} (h : RowBox w g t base E sz n v xs) (hk : ∀ j, (base ≤ j ∨ j = g) → j < w.heap.size → w'.heap[j]? = w.heap[j]?) : RowBox w' g t base E sz n v xs :=
 ⟨(hk g (.inr rfl) h.row.lt).trans h.row, own_other2 h.own (fun j hj hl => hk j (.inl hj) hl), h.lt⟩
theorem TakeX.stays (xs : List (Int × Int)) (many : Int) (gl : Nat) (b : Nat) (w w' : World) (h : TakeX xs many gl b w) (hk : ∀ j, (b ≤ j ∨ j = gl) → j < w.heap.size → w'.heap[j]? = w.heap[j]?) : TakeX xs many gl b w' := by
 obtain ⟨m, v, h1, h2⟩ := h
 exact ⟨m, v, h1, h2.past hk⟩
theorem Past2.after {p q m : Nat} {a b c : World} (h : Past2 p q a b) (hb : Below m b c) (ha : a.heap.size ≤ m) : Past2 p q a c :=
 ⟨hb.os.trans h.os, hb.tape.trans h.tape, hb.output.trans h.output, Nat.le_trans h.size hb.size, fun j h1 h2 hl => (hb.block j (by omega)).trans (h.block j h1 h2 hl)⟩
theorem Past2.row {p q g : Nat} {w w' : World} {t : TypeId} {cs : Array Value} (h : Past2 p q w w') (hr : RowAt w g t cs) (h1 : g ≠ p) (h2 : g ≠ q) : RowAt w' g t cs := (h.block g h1 h2 hr.lt).trans hr
theorem take1_any (gh gs gm gl n : Nat) (many : Int) (xs : List (Int × Int)) (w : World) (h : HandAt w gh gs n xs) (hn : n ≤ 4096) (hm : RowAt w gm 3 #[.int .i64 many]) (hl : RowAt w gl 29 #[.slice none 0 0]) (hms : gm ≠ gs) (hml : gm ≠ gl) (hls : gl ≠ gs) (hlh : gl ≠ gh) :
  Calls Tryz.prog 129 #[.pointer (some ⟨gh, 0, none⟩), .pointer (some ⟨gm, 0, none⟩), .pointer (some ⟨gl, 0, none⟩)] w (DoesRes gl gh gs n (TakeG xs many) (TakeF xs many) (TakeX xs many gl) w) := by
 have HH := Hi h
 have HL := Hi hl
 have HM := Hi hm
 have m0 := row1 hm
 have hx0 := row1 h.box
 have l0 := h.box.lt
 have l1 := hm.lt
 have l2 := hl.lt
 have l3 := h.row.lt
 clear h hl hm
 by_cases hneg : many < 0
 ·
  have hd : decide (0 ≤ many) = false := by simp; omega
  go_enter Tryz.func129, Tryz.ntmps129
  go_wp2_with fail
  refine (need_no 2 _).mono ?_
  rintro e w1 ⟨rfl, rfl⟩
  go_wp2_with fail
  exact ⟨rfl, Past2.refl _ _ _, .inr ⟨2, rfl, .inl ⟨hneg, rfl⟩⟩⟩
 ·
  obtain ⟨m, rfl⟩ := Int.eq_ofNat_of_zero_le (show 0 ≤ many by omega)
  by_cases hmn : m ≤ n
  ·
   have hmI : (m : Int) ≤ (n : Int) := by omega
   go_enter Tryz.func129, Tryz.ntmps129
   go_wp2_with fail
   refine (need_ok 2 _).mono ?_
   rintro e w1 ⟨rfl, rfl⟩
   go_wp2_with fail
   refine wp_region_tail 8 (by kernel_rfl) (by kernel_rfl) ?_
   simp only [List.take_succ_cons, List.take_zero, List.drop_succ_cons, List.drop_zero]
   repeat (go_big_quiet_step (fail))
   refine tail_out fun w2 hb2 => ?_
   have HH2 := Hi (HH.out.below hb2)
   have HL2 := Hi (HL.out.below hb2)
   have HM2 := Hi (HM.out.below hb2)
   have HB2 := Hi hb2
   have m0 := kept hb2 m0
   clear hb2 hx0
   go_wp2_with fail
   refine (need_ok 6 _).mono ?_
   rintro e w3 ⟨rfl, rfl⟩
   go_wp2_with fail
   have hs2 := HB2.out.size
   go_loopw [17] (fun i wr => ∃ j : Nat, j ≤ m ∧ j ≤ (ents xs 0).length ∧ i = .int .i64 j ∧ HandAt wr gh gs n (tk xs j) ∧ (∃ v, RowBox wr gl 29 w.heap.size 41 2 j v (Cs encE ((ents xs 0).take j))) ∧ Past2 gs gl w wr) (fun i _ => m - (intOf i).toNat)
   case atStart => exact ⟨0, Nat.zero_le _, Nat.zero_le _, rfl, by simpa [tk] using HH2.out, ⟨_, HL2.out, World.ownsRow_nil _ _ _ _, l2⟩, Past2.of_below HB2.out⟩
   case round =>
    obtain ⟨j, hj, hje, rfl, hhj, ⟨v, hbox⟩, hpj⟩ := hrel
    have HHJ := Hi hhj
    have HX := Hi hbox
    have HPJ := Hi hpj
    have hszj := hpj.size
    have d1 := hbox.cell
    have dl := hbox.row.lt
    have hle := ents_length xs 0
    have hxl := HH.out.len
    have HTE := Hi (tk_ents xs j)
    clear hhj hbox hpj
    by_cases hlt : j < m
    ·
     have HTK0 := take_any gh gs n (tk xs j) wr.drew ⟨HHJ.out.len, HHJ.out.ne, HHJ.out.box, HHJ.out.row⟩ hn
     by_cases hjl : j < (ents xs 0).length
     ·
      have HTS := Hi (tk_succ xs j hjl)
      have HTT := Hi (List.take_succ_eq_append_getElem hjl)
      have HDE := Hi (List.drop_eq_getElem_cons hjl)
      generalize (ents xs 0)[j] = x at *
      have HTK : Hid (Calls Tryz.prog 131 #[.pointer (some ⟨gh, 0, none⟩)] wr.drew fun e w5 => e = .returned (.agg #[.int .i64 x.1, .int .u64 x.2]) ∧ HandAt w5 gh gs n (tk xs (j + 1)) ∧ RowBox w5 gl 29 w.heap.size 41 2 j v (Cs encE ((ents xs 0).take j)) ∧ Past2 gs gl wr w5 ∧ wr.heap.size ≤ w5.heap.size) := Hi (HTK0.mono (by
       rintro e w5 (⟨he, _, _⟩ | ⟨x', r, he, rfl, hh5, hp5⟩)
       · rw [HTE.out, HDE.out] at he; cases he
       ·
        rw [HTE.out, HDE.out] at he
        injection he with he1 he2
        subst he1
        refine ⟨rfl, by rw [HTS.out]; exact hh5, HX.out.past (fun i hi hl => ?_), ⟨hp5.below.os, hp5.below.tape, hp5.below.output, hp5.size, fun i h1 _ hl => hp5.block i h1 hl⟩, hp5.size⟩
        have hi' : i ≠ gs := by rcases hi with hi | rfl <;> omega
        exact hp5.block i hi' hl))
      clear HTK0
      obtain ⟨Av, cv, rfl, hcv, hcvm⟩ := own_form2 HX.out.own
      go_wp2_with fail
      go_region_law (first
       | (go_simp; go_at_call 131; with_reducible refine HTK.out.mono ?_; rintro e w5 ⟨rfl, hh5, hbox5, hp5, hs5⟩; have HX5 := Hi hbox5; have HH5 := Hi hh5; have HP5 := Hi hp5; have c5 := hbox5.cell; have l5 := hbox5.row.lt; clear hbox5 hh5 hp5)
       | (rw [if_pos (by rfl)]; refine wp_app elE _ _ rfl rfl (HX5.out.own.alloc _) rfl (Rd.new w5 #[.int .i64 x.1, .int .u64 x.2] 41 2 1 rfl) (by simp [Value.oneCell']) (by omega) (by simp; omega) ?_; intro v6 w6 hown6 hb6 _ _; obtain ⟨A6, c6, rfl, hc6, hcm6⟩ := own_form2 hown6; have HO6 := Hi hown6; have HB6 := Hi (((Below.refl w.heap.size w5).alloc (by omega) (.cells #[.int .i64 x.1, .int .u64 x.2] 41)).trans hb6); have HR6 := Hi (HX5.out.row.belowB (by omega) HB6.out); have d6 := row1 HR6.out; have f6 := HR6.out.frozen 0; have l6 := HR6.out.lt; clear hown6 hb6))
      all_goals
       go_wp2_with fail
       go_roundw
       case rel =>
        refine ⟨j + 1, by omega, by omega, by go_num, ⟨by rw [tk_length]; exact HH.out.len, HH5.out.ne, (HH5.out.box.belowB l0 HB6.out).setNe (Ne.symm hlh), (HH5.out.row.belowB l3 HB6.out).setNe (Ne.symm hls)⟩, ⟨_, RowBox.store HR6.out l2 ?_⟩, ((HPJ.out.trans HP5.out).after HB6.out (Nat.le_refl _)).trans (Past2.set2 _ _)⟩
        rw [HTT.out, Cs_append]
        exact HO6.out
       case measure => simp [intOf]; omega
     ·
      have HTK : Hid (Calls Tryz.prog 131 #[.pointer (some ⟨gh, 0, none⟩)] wr.drew fun e w5 => e = .panicked (errX 6) ∧ Past2 gs gl wr w5) := Hi (HTK0.mono (by
       rintro e w5 (⟨he, rfl, hb5⟩ | ⟨x', r, he, _, _, _⟩)
       · exact ⟨rfl, ⟨hb5.os, hb5.tape, hb5.output, hb5.size, fun i _ _ hl => hb5.block i hl⟩⟩
       · rw [HTE.out, List.drop_of_length_le (by omega)] at he; cases he))
      clear HTK0
      go_wp2_with fail
      refine wp_region_held_drew (S := fun wX => wX.cell? ⟨gl, 0, none⟩ = some v) (by kernel_rfl) (by exact d1) (fun hHeld => ?_)
      refine tkH (i := 0) (v := v) rfl (Or.inl ⟨by rfl, fun w hw => ?_⟩) ?_
      ·
       (try dsimp only at hw)
       go_simp
       first | done | with_reducible rfl
      simp only [Act.put, Na, Nb, Nc, Nd, Nx, Nf]
      refine wpAnyH_take (i := 1) (v := .pointer (some ⟨gh, 0, none⟩)) rfl (by kernel_rfl) (by kernel_rfl) (by kernel_rfl) (fun _ _ _ h => h) (Or.inl ⟨by rfl, fun w hw => ?_⟩) (by assumption) ?_
      ·
       (try dsimp only at hw)
       go_simp
       first | done | with_reducible rfl
      simp only [Act.put, Na, Nb, Nc, Nd, Nx, Nf]
      refine ryH (i := 2) rfl (fun K hK => ?_)
      go_simp
      refine HTK.out.mono ?_
      rintro e w5 ⟨rfl, hp5⟩
      exact ⟨rfl, HPJ.out.trans hp5, .inr ⟨6, rfl, .inr ⟨by omega, by omega, rfl⟩⟩⟩
    ·
     obtain rfl : j = m := by omega
     go_wp2_with fail
     go_end0
     exact ⟨HPJ.out, .inl ⟨rfl, _, HHJ.out, ⟨j, rfl, hje, rfl⟩, j, v, rfl, HX.out⟩⟩
  ·
   have hmI : decide ((m : Int) ≤ (n : Int)) = false := by simp; omega
   have hle := ents_length xs 0
   have hxl := HH.out.len
   go_enter Tryz.func129, Tryz.ntmps129
   go_wp2_with fail
   refine (need_ok 2 _).mono ?_
   rintro e w1 ⟨rfl, rfl⟩
   go_wp2_with fail
   refine wp_region_tail 8 (by kernel_rfl) (by kernel_rfl) ?_
   simp only [List.take_succ_cons, List.take_zero, List.drop_succ_cons, List.drop_zero]
   repeat (go_big_quiet_step (fail))
   refine tail_out fun w2 hb2 => ?_
   have HB2 := Hi hb2
   clear hb2 hx0
   go_wp2_with fail
   refine (need_no 6 _).mono ?_
   rintro e w3 ⟨rfl, rfl⟩
   go_wp2_with fail
   exact ⟨rfl, Past2.of_below HB2.out, .inr ⟨6, rfl, .inr ⟨by omega, by omega, rfl⟩⟩⟩
end Go.Proofs.YtkicidopjihjmaaGreat
namespace Go.Proofs.YtkicidopjihjmaaGreat
open Go Go.RowKit
attribute [local go_sem] via_cell via_frozen
def rtE (xs l : List (Int × Int)) : Int := if arOk xs = true then (match retS xs l with | some _ => 0 | none => 4) else 210
def rtA (xs l : List (Int × Int)) : List (Int × Int) := if arOk xs = true then (match retS xs l with | some ys => ys | none => []) else []
def gvE (xs l : List (Int × Int)) : Int := if arOk xs = true then (match givS xs l with | .ok _ => 0 | .error k => k) else 210
def gvA (xs l : List (Int × Int)) : List (Int × Int) := if arOk xs = true then (match givS xs l with | .ok ys => ys | .error _ => []) else []
def tkE (xs : List (Int × Int)) (many : Int) : Int := if arOk xs = true then (if many < 0 then 2 else if ((ents xs 0).length : Int) < many then 6 else 0) else 210
def tkA (xs : List (Int × Int)) (many : Int) : List (Int × Int) := if tkE xs many = 0 then tk xs many.toNat else []
def tkL (xs : List (Int × Int)) (many : Int) : List (Int × Int) := if tkE xs many = 0 then (ents xs 0).take many.toNat else []
structure ArOut (W : World) (A : Option Addr) (n : Nat) (ys : List (Int × Int)) (W' : World) : Prop where
 len : ys.length = n
 rd : Rd W' W'.heap.size 2 A n (Cs encE ys)
 own : 0 < n → ∃ gs, A = some ⟨gs, 0, none⟩ ∧ W.heap.size ≤ gs ∧ RowAt W' gs 84 (Cs encE ys).toArray
theorem ArOut.nil (W W' : World) : ArOut W none 0 [] W' := ⟨rfl, Rd.none_, fun h => absurd h (by omega)⟩
theorem ArOut.below {W w w' : World} {A : Option Addr} {n : Nat} {ys : List (Int × Int)} (h : ArOut W A n ys w) (hb : Below w.heap.size w w') : ArOut W A n ys w' :=
 ⟨h.len, (h.rd.below hb).more hb.size, fun hn => by obtain ⟨gs, h1, h2, h3⟩ := h.own hn; exact ⟨gs, h1, h2, h3.below hb⟩⟩
theorem Past2.below {k : Nat} {a b : World} (h : Past2 k k a b) (hk : k = a.heap.size) : Below a.heap.size a b := ⟨h.os, h.tape, h.output, h.size, fun j hj => h.block j (by omega) (by omega) hj⟩
theorem ArOut.set {W w : World} {A : Option Addr} {n g : Nat} {ys : List (Int × Int)} (h : ArOut W A n ys w) (hne : 0 < n → ∀ gs, A = some ⟨gs, 0, none⟩ → gs ≠ g) (v : Value) : ArOut W A n ys (w.setCell ⟨g, 0, none⟩ v) :=
 ⟨h.len, by
  rcases Nat.eq_zero_or_pos n with h0 | h0
  ·
   subst h0
   exact ⟨h.rd.1, fun hh => absurd hh (by omega)⟩
  ·
   obtain ⟨gs, rfl, _, h3⟩ := h.own h0
   have := rd_setCell_ne (u := v) (p := ⟨g, 0, none⟩) h.rd (fun e => hne h0 gs rfl e.symm)
   exact this.more (by simp), fun hn => by obtain ⟨gs, h1, h2, h3⟩ := h.own hn; exact ⟨gs, h1, h2, h3.setNe (hne hn gs h1)⟩⟩
theorem retire_any (A : Option Addr) (c n : Nat) (A2 : Option Addr) (c2 m : Nat) (xs l : List (Int × Int)) (W : World) (h : Rd W W.heap.size 2 A n (Cs encE xs)) (hx : xs.length = n) (hn : n ≤ 4096) (hr : Rd W W.heap.size 2 A2 m (Cs encE l)) (hl : l.length = m) (hm : m ≤ 4096) :
  Calls Tryz.prog 106 #[.agg #[.slice A n c], .slice A2 m c2] W fun e W' => ∃ A' n' c', e = .returned (.tuple #[.agg #[.slice A' n' c'], .int .i64 (rtE xs l)]) ∧ n' ≤ c' ∧ ArOut W A' n' (rtA xs l) W' ∧ Below W.heap.size W W' := by
 go_enter Tryz.func106, Tryz.ntmps106
 go_wp2_with fail
 obtain ⟨w1, hw1⟩ : ∃ w1, W.alloc (.cells #[.slice A n c] 24) = w1 := ⟨_, rfl⟩
 obtain ⟨w2, hw2⟩ : ∃ w2, w1.alloc (.cells #[.slice A2 m c2] 29) = w2 := ⟨_, rfl⟩
 obtain ⟨w3, hw3⟩ : ∃ w3, w2.alloc (.cells #[.slice none 0 0] 24) = w3 := ⟨_, rfl⟩
 have s1 : w1.heap.size = W.heap.size + 1 := by rw [← hw1]; simp
 have s2 : w2.heap.size = W.heap.size + 1 + 1 := by rw [← hw2]; simp [s1]
 have s3 : w3.heap.size = W.heap.size + 1 + 1 + 1 := by rw [← hw3]; simp [s2]
 have b1 := baw hw1
 have b2 := baw hw2
 have b3 := baw hw3
 have r2 : RowAt w3 (W.heap.size + 1) 29 #[.slice A2 m c2] := by have h := RowAt.new w1 29 #[.slice A2 m c2]; rw [hw2, s1] at h; exact h.below b3
 have r3 : RowAt w3 (W.heap.size + 1 + 1) 24 #[.slice none 0 0] := by have h := RowAt.new w2 24 #[.slice none 0 0]; rw [hw3, s2] at h; exact h
 have hb0 : Below W.heap.size W w3 := (b1.trans (b2.mono b1.size)).trans (b3.mono (by omega))
 rw [hw1, hw2, hw3]
 have HTR : Hid (Calls Tryz.prog 128 #[.agg #[.slice A n c], .func (.func 134) #[] #[.pointer (some ⟨W.heap.size + 1, 0, none⟩)]] w3 fun e W' => ∃ A' n' c', e = .returned (.tuple #[.agg #[.slice A' n' c'], .int .i64 (rtE xs l)]) ∧ n' ≤ c' ∧ ArOut w3 A' n' (rtA xs l) W' ∧ Below w3.heap.size w3 W') := Hi (by
  obtain ⟨o, ho⟩ : ∃ o, arOk xs = o := ⟨_, rfl⟩
  cases o
  ·
   refine (tries_no A c n 134 _ xs w3 ((h.below hb0).more hb0.size) hx hn ho).mono ?_
   rintro e W' ⟨rfl, hb⟩
   refine ⟨none, 0, 0, by simp [rtE, ho], Nat.le_refl _, ?_, hb⟩
   have : rtA xs l = [] := by simp [rtA, ho]
   rw [this]
   exact ArOut.nil _ _
  ·
   refine (tries_yes w3.heap.size n A c 134 #[.pointer (some ⟨W.heap.size + 1, 0, none⟩)] xs w3 (enters_of Tryz.func134 (by kernel_rfl) rfl) ((h.below hb0).more hb0.size) hx ho _ _ (fun _ _ => True) (fun _ _ _ _ _ => trivial) (Nat.le_refl _)
    (fun w gh gs hh hbw h1 h2 => retire1_any w3.heap.size gh gs (W.heap.size + 1) n m c2 W.heap.size A2 l xs w hh hn (r2.below hbw) ((hr.below hb0).below (hbw.mono hb0.size))  hl hm (by omega) (by have := hbw.size; omega) (by omega))).mono ?_
   rintro e W' ⟨hp, ⟨ys, gs, rfl, hrd, hrow, hge, hyl, hG, _⟩ | ⟨k, rfl, hF⟩⟩
   ·
    have hA : rtA xs l = ys := by simp [rtA, ho, hG]
    have hE : rtE xs l = 0 := by simp [rtE, ho, hG]
    rw [hA, hE]
    exact ⟨_, n, n, rfl, Nat.le_refl _, ⟨hyl, hrd, fun _ => ⟨gs, rfl, hge, hrow⟩⟩, hp.below rfl⟩
   ·
    have hA : rtA xs l = [] := by simp [rtA, ho, hF.2]
    have hE : rtE xs l = k := by simp [rtE, ho, hF.2, hF.1]
    rw [hA, hE]
    exact ⟨none, 0, 0, rfl, Nat.le_refl _, ArOut.nil _ _, hp.below rfl⟩)
 have HB := Hi hb0
 have R3 := Hi r3
 clear hw1 hw2 hw3 b1 b2 b3 hb0 r2 r3 h hr s1 s2
 refine HTR.out.mono ?_
 rintro e w4 ⟨A', n', c', rfl, hnc, hout, hb⟩
 have HO := Hi hout
 have R3 := Hi (R3.out.below hb)
 have HB := bt HB hb
 have l3 := R3.out.lt
 have d3 := row1 R3.out
 have f3 := R3.out.frozen 0
 clear hout hb HTR
 go_wp2_with fail
 have hr4 : RowAt (w4.setCell ⟨W.heap.size + 1 + 1, 0, none⟩ (.slice A' n' c')) (W.heap.size + 1 + 1) 24 #[.slice A' n' c'] := R3.out.set 0 _
 have hout4 := HO.out.set (g := W.heap.size + 1 + 1) (fun h0 gs hgs => by
  obtain ⟨gs', h1, h2, _⟩ := HO.out.own h0
  rw [hgs] at h1
  injection h1 with h1
  injection h1 with h1
  omega) (.slice A' n' c')
 refine bodyPost_ret (v := .tuple #[.agg #[.slice A' n' c'], .int .i64 (rtE xs l)]) (by simp [results, Tryz.results106, go_sem, row1 hr4, hr4.lt, d3, l3]) rfl ⟨A', n', c', rfl, hnc, ⟨hout4.len, hout4.rd, fun hn => ?_⟩, HB.out.setCell (p := ⟨W.heap.size + 1 + 1, 0, none⟩) (by simp; omega) _⟩
 obtain ⟨gs, h1, h2, h3⟩ := hout4.own hn
 exact ⟨gs, h1, by omega, h3⟩
theorem give_any (A : Option Addr) (c n : Nat) (A2 : Option Addr) (c2 m : Nat) (xs l : List (Int × Int)) (W : World) (h : Rd W W.heap.size 2 A n (Cs encE xs)) (hx : xs.length = n) (hn : n ≤ 4096) (hr : Rd W W.heap.size 2 A2 m (Cs encE l)) (hl : l.length = m) (hm : m ≤ 4096) (hu : ∀ e ∈ l, U64 e.2) :
  Calls Tryz.prog 105 #[.agg #[.slice A n c], .slice A2 m c2] W fun e W' => ∃ A' n' c', e = .returned (.tuple #[.agg #[.slice A' n' c'], .int .i64 (gvE xs l)]) ∧ n' ≤ c' ∧ ArOut W A' n' (gvA xs l) W' ∧ Below W.heap.size W W' := by
 go_enter Tryz.func105, Tryz.ntmps105
 go_wp2_with fail
 obtain ⟨w1, hw1⟩ : ∃ w1, W.alloc (.cells #[.slice A n c] 24) = w1 := ⟨_, rfl⟩
 obtain ⟨w2, hw2⟩ : ∃ w2, w1.alloc (.cells #[.slice A2 m c2] 29) = w2 := ⟨_, rfl⟩
 obtain ⟨w3, hw3⟩ : ∃ w3, w2.alloc (.cells #[.slice none 0 0] 24) = w3 := ⟨_, rfl⟩
 have s1 : w1.heap.size = W.heap.size + 1 := by rw [← hw1]; simp
 have s2 : w2.heap.size = W.heap.size + 1 + 1 := by rw [← hw2]; simp [s1]
 have s3 : w3.heap.size = W.heap.size + 1 + 1 + 1 := by rw [← hw3]; simp [s2]
 have b1 := baw hw1
 have b2 := baw hw2
 have b3 := baw hw3
 have r2 : RowAt w3 (W.heap.size + 1) 29 #[.slice A2 m c2] := by have h := RowAt.new w1 29 #[.slice A2 m c2]; rw [hw2, s1] at h; exact h.below b3
 have r3 : RowAt w3 (W.heap.size + 1 + 1) 24 #[.slice none 0 0] := by have h := RowAt.new w2 24 #[.slice none 0 0]; rw [hw3, s2] at h; exact h
 have hb0 : Below W.heap.size W w3 := (b1.trans (b2.mono b1.size)).trans (b3.mono (by omega))
 rw [hw1, hw2, hw3]
 have HTR : Hid (Calls Tryz.prog 128 #[.agg #[.slice A n c], .func (.func 132) #[] #[.pointer (some ⟨W.heap.size + 1, 0, none⟩)]] w3 fun e W' => ∃ A' n' c', e = .returned (.tuple #[.agg #[.slice A' n' c'], .int .i64 (gvE xs l)]) ∧ n' ≤ c' ∧ ArOut w3 A' n' (gvA xs l) W' ∧ Below w3.heap.size w3 W') := Hi (by
  obtain ⟨o, ho⟩ : ∃ o, arOk xs = o := ⟨_, rfl⟩
  cases o
  ·
   refine (tries_no A c n 132 _ xs w3 ((h.below hb0).more hb0.size) hx hn ho).mono ?_
   rintro e W' ⟨rfl, hb⟩
   refine ⟨none, 0, 0, by simp [gvE, ho], Nat.le_refl _, ?_, hb⟩
   have : gvA xs l = [] := by simp [gvA, ho]
   rw [this]
   exact ArOut.nil _ _
  ·
   refine (tries_yes w3.heap.size n A c 132 #[.pointer (some ⟨W.heap.size + 1, 0, none⟩)] xs w3 (enters_of Tryz.func132 (by kernel_rfl) rfl) ((h.below hb0).more hb0.size) hx ho _ _ (fun _ _ => True) (fun _ _ _ _ _ => trivial) (Nat.le_refl _)
    (fun w gh gs hh hbw h1 h2 => give1_any w3.heap.size gh gs (W.heap.size + 1) n m c2 W.heap.size A2 l xs w hh ho (r2.below hbw) ((hr.below hb0).below (hbw.mono hb0.size)) hu hl hm (by omega) (by have := hbw.size; omega) (by omega))).mono ?_
   rintro e W' ⟨hp, ⟨ys, gs, rfl, hrd, hrow, hge, hyl, hG, _⟩ | ⟨k, rfl, hF⟩⟩
   ·
    have hA : gvA xs l = ys := by simp [gvA, ho, hG]
    have hE : gvE xs l = 0 := by simp [gvE, ho, hG]
    rw [hA, hE]
    exact ⟨_, n, n, rfl, Nat.le_refl _, ⟨hyl, hrd, fun _ => ⟨gs, rfl, hge, hrow⟩⟩, hp.below rfl⟩
   ·
    have hA : gvA xs l = [] := by simp [gvA, ho, hF]
    have hE : gvE xs l = k := by simp [gvE, ho, hF]
    rw [hA, hE]
    exact ⟨none, 0, 0, rfl, Nat.le_refl _, ArOut.nil _ _, hp.below rfl⟩)
 have HB := Hi hb0
 have R3 := Hi r3
 clear hw1 hw2 hw3 b1 b2 b3 hb0 r2 r3 h hr s1 s2
 refine HTR.out.mono ?_
 rintro e w4 ⟨A', n', c', rfl, hnc, hout, hb⟩
 have HO := Hi hout
 have R3 := Hi (R3.out.below hb)
 have HB := bt HB hb
 have l3 := R3.out.lt
 have d3 := row1 R3.out
 have f3 := R3.out.frozen 0
 clear hout hb HTR
 go_wp2_with fail
 have hr4 : RowAt (w4.setCell ⟨W.heap.size + 1 + 1, 0, none⟩ (.slice A' n' c')) (W.heap.size + 1 + 1) 24 #[.slice A' n' c'] := R3.out.set 0 _
 have hout4 := HO.out.set (g := W.heap.size + 1 + 1) (fun h0 gs hgs => by
  obtain ⟨gs', h1, h2, _⟩ := HO.out.own h0
  rw [hgs] at h1
  injection h1 with h1
  injection h1 with h1
  omega) (.slice A' n' c')
 refine bodyPost_ret (v := .tuple #[.agg #[.slice A' n' c'], .int .i64 (gvE xs l)]) (by simp [results, Tryz.results105, go_sem, row1 hr4, hr4.lt, d3, l3]) rfl ⟨A', n', c', rfl, hnc, ⟨hout4.len, hout4.rd, fun hn => ?_⟩, HB.out.setCell (p := ⟨W.heap.size + 1 + 1, 0, none⟩) (by simp; omega) _⟩
 obtain ⟨gs, h1, h2, h3⟩ := hout4.own hn
 exact ⟨gs, h1, by omega, h3⟩
theorem Take_any (A : Option Addr) (c n : Nat) (many : Int) (xs : List (Int × Int)) (W : World) (h : Rd W W.heap.size 2 A n (Cs encE xs)) (hx : xs.length = n) (hn : n ≤ 4096) :
  Calls Tryz.prog 103 #[.agg #[.slice A n c], .int .i64 many] W fun e W' => ∃ A' n' c' A2 m c2, e = .returned (.tuple #[.agg #[.slice A' n' c'], .slice A2 m c2, .int .i64 (tkE xs many)]) ∧ n' ≤ c' ∧ m ≤ c2 ∧ ArOut W A' n' (tkA xs many) W' ∧ (tkL xs many).length = m ∧ Rd W' W'.heap.size 2 A2 m (Cs encE (tkL xs many)) ∧ (∀ p, A2 = some p → W.heap.size ≤ p.block) ∧ Below W.heap.size W W' := by
 obtain ⟨E, hE⟩ : ∃ E, tkE xs many = E := ⟨_, rfl⟩
 obtain ⟨Y, hY⟩ : ∃ Y, tkA xs many = Y := ⟨_, rfl⟩
 obtain ⟨L, hL⟩ : ∃ L, tkL xs many = L := ⟨_, rfl⟩
 rw [hE, hY, hL]
 have HE := Hi hE
 have HY := Hi hY
 have HL := Hi hL
 clear hE hY hL
 go_enter Tryz.func103, Tryz.ntmps103
 go_wp2_with fail
 obtain ⟨w1, hw1⟩ : ∃ w1, W.alloc (.cells #[.slice A n c] 24) = w1 := ⟨_, rfl⟩
 obtain ⟨w2, hw2⟩ : ∃ w2, w1.alloc (.cells #[.int .i64 many] 3) = w2 := ⟨_, rfl⟩
 obtain ⟨w3, hw3⟩ : ∃ w3, w2.alloc (.cells #[.slice none 0 0] 24) = w3 := ⟨_, rfl⟩
 obtain ⟨w4, hw4⟩ : ∃ w4, w3.alloc (.cells #[.slice none 0 0] 29) = w4 := ⟨_, rfl⟩
 have s1 : w1.heap.size = W.heap.size + 1 := by rw [← hw1]; simp
 have s2 : w2.heap.size = W.heap.size + 1 + 1 := by rw [← hw2]; simp [s1]
 have s3 : w3.heap.size = W.heap.size + 1 + 1 + 1 := by rw [← hw3]; simp [s2]
 have s4 : w4.heap.size = W.heap.size + 1 + 1 + 1 + 1 := by rw [← hw4]; simp [s3]
 have b1 := baw hw1
 have b2 := baw hw2
 have b3 := baw hw3
 have b4 := baw hw4
 have r2 : RowAt w4 (W.heap.size + 1) 3 #[.int .i64 many] := by have h := RowAt.new w1 3 #[.int .i64 many]; rw [hw2, s1] at h; exact (h.below b3).below b4
 have r3 : RowAt w4 (W.heap.size + 1 + 1) 24 #[.slice none 0 0] := by have h := RowAt.new w2 24 #[.slice none 0 0]; rw [hw3, s2] at h; exact h.below b4
 have r4 : RowAt w4 (W.heap.size + 1 + 1 + 1) 29 #[.slice none 0 0] := by have h := RowAt.new w3 29 #[.slice none 0 0]; rw [hw4, s3] at h; exact h
 have hb0 : Below W.heap.size W w4 := ((b1.trans (b2.mono b1.size)).trans (b3.mono (by omega))).trans (b4.mono (by omega))
 rw [hw1, hw2, hw3, hw4]
 have hE := HE.out
 have hY := HY.out
 have hL := HL.out
 have HTR : Hid (Calls Tryz.prog 128 #[.agg #[.slice A n c], .func (.func 129) #[] #[.pointer (some ⟨W.heap.size + 1, 0, none⟩), .pointer (some ⟨W.heap.size + 1 + 1 + 1, 0, none⟩)]] w4 fun e W' => ∃ A' n' c', e = .returned (.tuple #[.agg #[.slice A' n' c'], .int .i64 E]) ∧ n' ≤ c' ∧ ArOut w4 A' n' Y W' ∧ Past2 (W.heap.size + 1 + 1 + 1) (W.heap.size + 1 + 1 + 1) w4 W' ∧ (E ≠ 0 → L = [] ∧ Y = []) ∧ (E = 0 → ∃ b v, W.heap.size + 4 ≤ b ∧ RowBox W' (W.heap.size + 1 + 1 + 1) 29 b 41 2 L.length v (Cs encE L))) := Hi (by
  obtain ⟨o, ho⟩ : ∃ o, arOk xs = o := ⟨_, rfl⟩
  cases o
  ·
   have hE2 : E = 210 := by rw [← hE]; simp [tkE, ho]
   have hY2 : Y = [] := by rw [← hY]; simp [tkA, hE, hE2]
   have hL2 : L = [] := by rw [← hL]; simp [tkL, hE, hE2]
   subst hY2 hL2
   refine (tries_no A c n 129 _ xs w4 ((h.below hb0).more hb0.size) hx hn ho).mono ?_
   rintro e W' ⟨rfl, hb⟩
   exact ⟨none, 0, 0, by rw [hE2], Nat.le_refl _, ArOut.nil _ _, Past2.of_below hb, fun _ => ⟨rfl, rfl⟩, fun h => by omega⟩
  ·
   refine (tries_yes (W.heap.size + 1 + 1 + 1) n A c 129 #[.pointer (some ⟨W.heap.size + 1, 0, none⟩), .pointer (some ⟨W.heap.size + 1 + 1 + 1, 0, none⟩)] xs w4 (enters_of Tryz.func129 (by kernel_rfl) rfl) ((h.below hb0).more hb0.size) hx ho (TakeG xs many) (TakeF xs many) (TakeX xs many (W.heap.size + 1 + 1 + 1)) (TakeX.stays xs many _) (by omega)
    (fun w gh gs hh hbw h1 h2 => take1_any gh gs (W.heap.size + 1) (W.heap.size + 1 + 1 + 1) n many xs w hh hn (r2.below hbw) (r4.below hbw) (by omega) (by omega) (by omega) (by omega))).mono ?_
   rintro e W' ⟨hp, ⟨ys, gs, rfl, hrd, hrow, hge, hyl, ⟨m, hm1, hm2, hm3⟩, b, hb1, m', v, hm4, hbox⟩ | ⟨k, rfl, hF⟩⟩
   ·
    have hmm : m' = m := by omega
    subst hmm
    subst hm1
    have hE2 : E = 0 := by rw [← hE]; simp [tkE, ho]; omega
    have hY2 : Y = ys := by rw [← hY]; simp [tkA, hE, hE2, hm3]
    have hL2 : L = (ents xs 0).take m' := by rw [← hL]; simp [tkL, hE, hE2]
    subst hY2 hE2
    have hLl : L.length = m' := by rw [hL2, List.length_take]; omega
    refine ⟨_, n, n, rfl, Nat.le_refl _, ⟨hyl, hrd, fun _ => ⟨gs, rfl, hge, hrow⟩⟩, hp, fun h => absurd rfl h, fun _ => ⟨b, v, by omega, ?_⟩⟩
    rw [hLl, hL2]
    exact hbox
   ·
    have hE2 : E = k ∧ E ≠ 0 := by
     rw [← hE]
     rcases hF with ⟨h1, h2⟩ | ⟨h1, h2, h3⟩
     · simp [tkE, ho, h1, h2]
     ·
      have h4 : ¬ many < 0 := by omega
      simp [tkE, ho, h4, h2, h3]
    have hY2 : Y = [] := by rw [← hY]; simp [tkA, hE, hE2.2]
    have hL2 : L = [] := by rw [← hL]; simp [tkL, hE, hE2.2]
    subst hY2 hL2
    exact ⟨none, 0, 0, by rw [hE2.1], Nat.le_refl _, ArOut.nil _ _, hp, fun _ => ⟨rfl, rfl⟩, fun h => absurd h hE2.2⟩)
 have HB := Hi hb0
 have R3 := Hi r3
 clear hw1 hw2 hw3 hw4 b1 b2 b3 b4 hb0 r2 r3 r4 h s1 s2 s3 hE hY hL HE HY HL
 refine HTR.out.mono ?_
 rintro e w5 ⟨A', n', c', rfl, hnc, hout, hp, hbad, hgood⟩
 have HO := Hi hout
 have R3 := Hi (hp.row R3.out (by omega) (by omega))
 have hs5 := hp.size
 have HB5 : Hid (Below W.heap.size W w5) := Hi ⟨hp.os.trans HB.out.os, hp.tape.trans HB.out.tape, hp.output.trans HB.out.output, by omega, fun j hj => (hp.block j (by omega) (by omega) (by omega)).trans (HB.out.block j hj)⟩
 have l3 := R3.out.lt
 have d3 := row1 R3.out
 have f3 := R3.out.frozen 0
 clear hout HTR HB hp
 by_cases hE0 : E = 0
 ·
  subst hE0
  obtain ⟨b, v, hbb, hbox⟩ := hgood rfl
  obtain ⟨A2, c2, rfl, hc2, hcm2⟩ := own_form2 hbox.own
  have d4 := hbox.cell
  have l4 := hbox.row.lt
  have HX := Hi hbox
  clear hbad hgood hbox
  go_wp2_with fail
  go_region
  go_wp2_with fail
  obtain ⟨w6, hw6⟩ : ∃ w6, (w5.setCell ⟨W.heap.size + 1 + 1, 0, none⟩ (.slice A' n' c')) = w6 := ⟨_, rfl⟩
  have hr6 : RowAt w6 (W.heap.size + 1 + 1) 24 #[.slice A' n' c'] := by rw [← hw6]; exact R3.out.set 0 _
  have ho6 : ArOut w4 A' n' Y w6 := by
   rw [← hw6]
   exact HO.out.set (fun h0 gs hgs => by
    obtain ⟨gs', h1, h2, _⟩ := HO.out.own h0
    rw [hgs] at h1
    injection h1 with h1
    injection h1 with h1
    omega) _
  have hw6o : w6.ownsRow b 41 2 (.slice A2 L.length c2) L.length (Cs encE L) := by
   rw [← hw6]
   exact own_other HX.out.own (fun j hj => heap_setCell_ne _ _ _ _ (by show j ≠ W.heap.size + 1 + 1; omega))
  have hb6 : Below W.heap.size w5 w6 := by rw [← hw6]; exact (Below.refl _ _).setCell (p := ⟨W.heap.size + 1 + 1, 0, none⟩) (by simp; omega) _
  rw [hw6]
  obtain ⟨w7, hw7⟩ : ∃ w7, (w6.alloc (.cells #[.slice A' n' c'] 24)).drew = w7 := ⟨_, rfl⟩
  have hb7 : Below w6.heap.size w6 w7 := by rw [← hw7]; exact ((Below.refl _ _).alloc (Nat.le_refl _) _).drew
  have hr7 := hr6.below hb7
  have ho7 := ho6.below hb7
  have hrd := ((Rd.of_own hw6o).below hb7).more hb7.size
  rw [hw7]
  refine bodyPost_ret (v := .tuple #[.agg #[.slice A' n' c'], .slice A2 L.length c2, .int .i64 0]) (by simp [results, Tryz.results103, go_sem, row1 hr7, hr7.lt]) rfl ⟨A', n', c', A2, L.length, c2, rfl, hnc, hc2, ⟨ho7.len, ho7.rd, fun hn => ?_⟩, rfl, hrd, fun p hp => by have := own_fresh hw6o p hp; omega, (HB5.out.trans hb6).trans (hb7.mono (by have := HB5.out.size; have := hb6.size; omega))⟩
  obtain ⟨gs, h1, h2, h3⟩ := ho7.own hn
  exact ⟨gs, h1, by omega, h3⟩
 ·
  have hE1 : (E != 0) = true := by simpa using hE0
  obtain ⟨rfl, rfl⟩ := hbad hE0
  clear hbad hgood
  go_wp2_with fail
  have hr6 : RowAt ((w5.setCell ⟨W.heap.size + 1 + 1, 0, none⟩ (.slice none 0 0)).alloc (.cells #[.slice A' n' c'] 24)) (W.heap.size + 1 + 1) 24 #[.slice none 0 0] := (R3.out.set 0 (.slice none 0 0)).below ((Below.refl _ _).alloc (Nat.le_refl _) _)
  have hb6 : Below W.heap.size w5 ((w5.setCell ⟨W.heap.size + 1 + 1, 0, none⟩ (.slice none 0 0)).alloc (.cells #[.slice A' n' c'] 24)) := ((Below.refl _ _).setCell (p := ⟨W.heap.size + 1 + 1, 0, none⟩) (by simp; omega) _).alloc (by have := HB5.out.size; simp; omega) _
  generalize (w5.setCell _ _).alloc _ = w7 at *
  exact bodyPost_ret (v := .tuple #[.agg #[.slice none 0 0], .slice none 0 0, .int .i64 E]) (by simp [results, Tryz.results103, go_sem, row1 hr6, hr6.lt]) rfl ⟨none, 0, 0, none, 0, 0, rfl, Nat.le_refl _, Nat.le_refl _, ArOut.nil _ _, rfl, Rd.none_, fun p hp => (by cases hp), HB5.out.trans hb6⟩
theorem TakeK (A : Option Addr) (c n : Nat) (many : Int) (xs : List (Int × Int)) (W : World) (h : Rd W W.heap.size 2 A n (Cs encE xs)) (hx : xs.length = n) (hn : n ≤ 4096) (E : Int) (Y L : List (Int × Int)) (k m : Nat) (hE : tkE xs many = E) (hY : tkA xs many = Y) (hL : tkL xs many = L) (hk : Y.length = k) (hm : L.length = m) :
  Calls Tryz.prog 103 #[.agg #[.slice A n c], .int .i64 many] W fun e W' => ∃ A' c' A2 c2, e = .returned (.tuple #[.agg #[.slice A' k c'], .slice A2 m c2, .int .i64 E]) ∧ k ≤ c' ∧ m ≤ c2 ∧ ArOut W A' k Y W' ∧ Rd W' W'.heap.size 2 A2 m (Cs encE L) ∧ (∀ p, A2 = some p → W.heap.size ≤ p.block) ∧ Below W.heap.size W W' := by
 refine (Take_any A c n many xs W h hx hn).mono ?_
 rintro e W' ⟨A', n', c', A2, m', c2, rfl, h1, h2, h3, h4, h5, h6, h7⟩
 rw [hE]
 rw [hY] at h3
 rw [hL] at h4 h5
 obtain rfl : n' = k := by rw [← hk]; exact h3.len.symm
 obtain rfl : m' = m := by rw [← hm]; exact h4.symm
 exact ⟨A', c', A2, c2, rfl, h1, h2, h3, h5, h6, h7⟩
theorem RetireK (A : Option Addr) (c n : Nat) (A2 : Option Addr) (c2 m : Nat) (xs l : List (Int × Int)) (W : World) (h : Rd W W.heap.size 2 A n (Cs encE xs)) (hx : xs.length = n) (hn : n ≤ 4096) (hr : Rd W W.heap.size 2 A2 m (Cs encE l)) (hl : l.length = m) (hm : m ≤ 4096) (E : Int) (Y : List (Int × Int)) (k : Nat) (hE : rtE xs l = E) (hY : rtA xs l = Y) (hk : Y.length = k) :
  Calls Tryz.prog 106 #[.agg #[.slice A n c], .slice A2 m c2] W fun e W' => ∃ A' c', e = .returned (.tuple #[.agg #[.slice A' k c'], .int .i64 E]) ∧ k ≤ c' ∧ ArOut W A' k Y W' ∧ Below W.heap.size W W' := by
 refine (retire_any A c n A2 c2 m xs l W h hx hn hr hl hm).mono ?_
 rintro e W' ⟨A', n', c', rfl, h1, h3, h7⟩
 rw [hE]
 rw [hY] at h3
 obtain rfl : n' = k := by rw [← hk]; exact h3.len.symm
 exact ⟨A', c', rfl, h1, h3, h7⟩
theorem GiveK (A : Option Addr) (c n : Nat) (A2 : Option Addr) (c2 m : Nat) (xs l : List (Int × Int)) (W : World) (h : Rd W W.heap.size 2 A n (Cs encE xs)) (hx : xs.length = n) (hn : n ≤ 4096) (hr : Rd W W.heap.size 2 A2 m (Cs encE l)) (hl : l.length = m) (hm : m ≤ 4096) (hu : ∀ e ∈ l, U64 e.2) (E : Int) (Y : List (Int × Int)) (k : Nat) (hE : gvE xs l = E) (hY : gvA xs l = Y) (hk : Y.length = k) :
  Calls Tryz.prog 105 #[.agg #[.slice A n c], .slice A2 m c2] W fun e W' => ∃ A' c', e = .returned (.tuple #[.agg #[.slice A' k c'], .int .i64 E]) ∧ k ≤ c' ∧ ArOut W A' k Y W' ∧ Below W.heap.size W W' := by
 refine (give_any A c n A2 c2 m xs l W h hx hn hr hl hm hu).mono ?_
 rintro e W' ⟨A', n', c', rfl, h1, h3, h7⟩
 rw [hE]
 rw [hY] at h3
 obtain rfl : n' = k := by rw [← hk]; exact h3.len.symm
 exact ⟨A', c', rfl, h1, h3, h7⟩
end Go.Proofs.YtkicidopjihjmaaGreat
set_option maxRecDepth 20000
namespace Go.Proofs.YtkicidopjihjmaaGreat.Pn
open Go Go.RowKit
def pOk (e : Int) (S : List Int) : Bool := decide (1 ≤ S.length) && (decide (S.length ≤ 8) && (decide (e ≤ 4611686018427387904) && S.all fun s => decide (s ≤ e + 1)))
theorem pOk_out {e : Int} {S : List Int} (h : pOk e S = true) : 1 ≤ S.length ∧ S.length ≤ 8 ∧ e ≤ 4611686018427387904 ∧ ∀ s ∈ S, s ≤ e + 1 := by
 simpa [pOk] using h
theorem pOk_mk {e : Int} {S : List Int} (h : 1 ≤ S.length ∧ S.length ≤ 8 ∧ e ≤ 4611686018427387904 ∧ ∀ s ∈ S, s ≤ e + 1) : pOk e S = true := by
 simpa [pOk] using h
def heldB (e s : Int) : Bool := decide (0 < s) && decide (s - 1 < e)
def backF (e : Int) : Nat → List Int → List Int
 | _, [] => []
 | k, s :: l => (if heldB e s = true then [(k : Int)] else []) ++ backF e (k + 1) l
def backL (e : Int) (S : List Int) : List Int := backF e 0 S
theorem backF_append (e : Int) : ∀ (k : Nat) (l m : List Int), backF e k (l ++ m) = backF e k l ++ backF e (k + l.length) m
 | k, [], m => by simp [backF]
 | k, s :: l, m => by
  simp only [List.cons_append, backF, List.append_assoc, backF_append e (k + 1) l m, List.length_cons]
  rw [show k + 1 + l.length = k + (l.length + 1) by omega]
theorem backL_snoc (e : Int) (S : List Int) (k : Nat) (hk : k < S.length) : backL e (S.take (k + 1)) = backL e (S.take k) ++ if heldB e S[k] = true then [(k : Int)] else [] := by
 unfold backL
 rw [List.take_succ_eq_append_getElem hk, backF_append]
 simp [backF, List.length_take, Nat.min_eq_left (Nat.le_of_lt hk)]
theorem backF_length (e : Int) : ∀ (k : Nat) (l : List Int), (backF e k l).length ≤ l.length
 | _, [] => by simp [backF]
 | k, s :: l => by
  have := backF_length e (k + 1) l
  simp only [backF, List.length_append, List.length_cons]
  split <;> simp <;> omega
theorem backL_length (e : Int) (S : List Int) : (backL e S).length ≤ S.length := backF_length e 0 S
theorem backF_mem (e : Int) : ∀ (k : Nat) (l : List Int) (g : Int), g ∈ backF e k l ↔ ∃ j, ∃ h : j < l.length, g = ((k + j : Nat) : Int) ∧ heldB e l[j] = true
 | k, [], g => by simp [backF]
 | k, s :: l, g => by
  rw [backF, List.mem_append, backF_mem e (k + 1) l g]
  constructor
  ·
   rintro (h | ⟨j, hj, rfl, hh⟩)
   ·
    by_cases hs : heldB e s = true
    · simp [hs] at h; exact ⟨0, by simp, by simpa using h, by simpa using hs⟩
    · simp [hs] at h
   · exact ⟨j + 1, by simpa using hj, by omega, by simpa using hh⟩
  ·
   rintro ⟨j, hj, rfl, hh⟩
   cases j with
   | zero => left; simp at hh; simp [hh]
   | succ j => right; exact ⟨j, by simpa using hj, by omega, by simpa using hh⟩
theorem backL_mem {e : Int} {S : List Int} {g : Int} : g ∈ backL e S ↔ ∃ j, ∃ h : j < S.length, g = (j : Int) ∧ heldB e S[j] = true := by
 unfold backL; rw [backF_mem]; simp
theorem backL_nil {e : Int} {S : List Int} : backL e S = [] ↔ S.any (heldB e) = false := by
 constructor
 ·
  intro h
  rw [List.any_eq_false]
  intro s hs
  obtain ⟨j, hj, rfl⟩ := List.mem_iff_getElem.1 hs
  intro hh
  have : (j : Int) ∈ backL e S := backL_mem.2 ⟨j, hj, rfl, hh⟩
  rw [h] at this; simp at this
 ·
  intro h
  rw [List.any_eq_false] at h
  rw [List.eq_nil_iff_forall_not_mem]
  intro g hg
  obtain ⟨j, hj, rfl, hh⟩ := backL_mem.1 hg
  exact h _ (List.getElem_mem hj) hh
def dE (e : Int) (S : List Int) (k g b : Int) : Int :=
 if k < 1 ∨ 3 < k ∨ (k ≠ 3 ∧ (g < 0 ∨ (S.length : Int) ≤ g)) then 2
 else if k = 3 then (if S.any (heldB e) = true then 231 else if e = 4611686018427387904 then 6 else 0)
 else if k = 1 then (if 0 < S.getD g.toNat 0 then 5 else if e < b then 4 else 0)
 else (if S.getD g.toNat 0 = 0 then 4 else 0)
def dX (e : Int) (k : Int) : Int := if k = 3 then e + 1 else e
def dS (e : Int) (S : List Int) (k g b : Int) : List Int := if k = 3 then S else if k = 1 then S.set g.toNat (e + 1 - b) else S.set g.toNat 0
theorem dS_length (e : Int) (S : List Int) (k g b : Int) : (dS e S k g b).length = S.length := by
 unfold dS
 split
 · rfl
 · split <;> simp
def doE (e : Int) (S : List Int) (k g b : Int) : Int := if pOk e S = true then dE e S k g b else 230
def doX (e : Int) (S : List Int) (k g b : Int) : Int := if doE e S k g b = 0 then dX e k else 0
def doS (e : Int) (S : List Int) (k g b : Int) : List Int := if doE e S k g b = 0 then dS e S k g b else []
theorem dE_cases (e : Int) (S : List Int) (k g b : Int) (h : dE e S k g b = 0) : (k = 3 ∧ S.any (heldB e) = false ∧ e ≠ 4611686018427387904) ∨
  (k = 1 ∧ 0 ≤ g ∧ g < S.length ∧ S.getD g.toNat 0 ≤ 0 ∧ b ≤ e) ∨ (k = 2 ∧ 0 ≤ g ∧ g < S.length ∧ S.getD g.toNat 0 ≠ 0) := by
 unfold dE at h
 split at h
 · cases h
 ·
  rename_i h1
  split at h
  ·
   split at h
   · cases h
   ·
    split at h
    · cases h
    · left; refine ⟨by assumption, by simpa using ‹¬ S.any (heldB e) = true›, by assumption⟩
  ·
   split at h
   ·
    split at h
    · cases h
    ·
     split at h
     · cases h
     · right; left; refine ⟨by assumption, by omega, by omega, by omega, by omega⟩
   ·
    split at h
    · cases h
    · right; right; refine ⟨by omega, by omega, by omega, by assumption⟩
theorem mem_set_le {S : List Int} {k : Nat} {v m : Int} (h : ∀ s ∈ S, s ≤ m) (hv : v ≤ m) : ∀ s ∈ S.set k v, s ≤ m := by
 intro s hs
 rcases List.mem_or_eq_of_mem_set hs with hs | rfl
 · exact h s hs
 · exact hv
theorem pOk_do {e : Int} {S : List Int} {k g b : Int} (ho : pOk e S = true) (he : 0 ≤ e) (hb : 0 ≤ b) (h : dE e S k g b = 0) : pOk (dX e k) (dS e S k g b) = true := by
 obtain ⟨h1, h2, h3, h4⟩ := pOk_out ho
 rcases dE_cases e S k g b h with ⟨rfl, h5, h6⟩ | ⟨rfl, h5, h6, h7, h8⟩ | ⟨rfl, h5, h6, h7⟩
 · exact pOk_mk ⟨by simpa [dS] using h1, by simpa [dS] using h2, by simp [dX]; omega, fun s hs => by simp [dS] at hs; have := h4 s hs; simp [dX]; omega⟩
 ·
  refine pOk_mk ⟨by simpa [dS] using h1, by simpa [dS] using h2, by simpa [dX] using h3, ?_⟩
  simp only [dS, dX]
  exact mem_set_le h4 (by omega)
 ·
  refine pOk_mk ⟨by simpa [dS] using h1, by simpa [dS] using h2, by simpa [dX] using h3, ?_⟩
  simp only [dS, dX]
  exact mem_set_le h4 (by omega)
theorem dS_nonneg {e : Int} {S : List Int} {k g b : Int} (hS : ∀ s ∈ S, 0 ≤ s) (h : dE e S k g b = 0) (he : 0 ≤ e) : ∀ s ∈ dS e S k g b, 0 ≤ s := by
 rcases dE_cases e S k g b h with ⟨rfl, h5, h6⟩ | ⟨rfl, h5, h6, h7, h8⟩ | ⟨rfl, h5, h6, h7⟩
 · simpa [dS] using hS
 ·
  intro s hs
  simp [dS] at hs
  rcases List.mem_or_eq_of_mem_set hs with hs | rfl
  · exact hS s hs
  · omega
 ·
  intro s hs
  simp [dS] at hs
  rcases List.mem_or_eq_of_mem_set hs with hs | rfl
  · exact hS s hs
  · omega
end Go.Proofs.YtkicidopjihjmaaGreat.Pn
set_option maxRecDepth 20000
namespace Go.Proofs.YtkicidopjihjmaaGreat.Li
open Go Go.RowKit
abbrev Ent := Int × Int
def LAST : Nat := 4611686018427387904
def entB (e : Ent) : Bool := decide (0 ≤ e.1) && (decide (e.1 < 128) && decide (e.2 ≤ 1099511627775))
structure Lim where
 E : Nat
 r : Nat → List Ent
def lim0 : Lim := ⟨0, fun _ => []⟩
def upd (r : Nat → List Ent) (k : Nat) (x : List Ent) : Nat → List Ent := fun j => if j = k then x else r j
def rowN (E ago : Nat) : Nat := (E + 3 - ago) % 3
theorem rowN_lt (E ago : Nat) : rowN E ago < 3 := Nat.mod_lt _ (by omega)
def Lim.at (l : Lim) (ago : Nat) : List Ent := l.r (rowN l.E ago)
def tag (a : Nat) (l : List Ent) : List (Nat × Ent) := l.map (fun e => (a, e))
def Lim.each (l : Lim) : List (Nat × Ent) := tag 2 (l.at 2) ++ (tag 1 (l.at 1) ++ tag 0 (l.at 0))
def Lim.held (l : Lim) : List Ent := l.at 2 ++ (l.at 1 ++ l.at 0)
theorem tag_snd (a : Nat) (l : List Ent) : (tag a l).map (·.2) = l := by
 unfold tag; induction l with
 | nil => rfl
 | cons x l ih => simpa using ih
theorem each_held (l : Lim) : l.each.map (·.2) = l.held := by
 unfold Lim.each Lim.held
 rw [List.map_append, List.map_append, tag_snd, tag_snd, tag_snd]
def okP (E : Nat) : List (Nat × Ent) → List Int → Bool
 | [], _ => true
 | p :: l, met => (decide (p.1 ≤ E) && (entB p.2 && !met.contains p.2.1)) && okP E l (p.2.1 :: met)
def metOf (l : List (Nat × Ent)) : List Int := (l.map (fun p => p.2.1)).reverse
theorem okP_append (E : Nat) (a b : List (Nat × Ent)) (met : List Int) : okP E (a ++ b) met = (okP E a met && okP E b (metOf a ++ met)) := by
 induction a generalizing met with
 | nil => simp [okP, metOf]
 | cons p a ih =>
  rw [List.cons_append, okP, okP, ih]
  have hm : metOf (p :: a) ++ met = metOf a ++ p.2.1 :: met := by simp [metOf]
  rw [hm]
  simp only [Bool.and_assoc]
theorem okP_snoc (E : Nat) (a : List (Nat × Ent)) (p : Nat × Ent) : okP E (a ++ [p]) [] = (okP E a [] && (decide (p.1 ≤ E) && (entB p.2 && !(metOf a).contains p.2.1))) := by
 rw [okP_append]
 simp [okP]
def Lim.ok (l : Lim) : Bool := decide (l.E ≤ LAST) && okP l.E l.each []
def hasB (l : List Ent) (s : Int) : Bool := l.any (fun x => x.1 == s)
def doRet (l : Lim) (e : Ent) : Except Int Lim :=
 if entB e = false then .error 2
 else if hasB (l.r 0) e.1 || (hasB (l.r 1) e.1 || hasB (l.r 2) e.1) then .error 5
 else .ok ⟨l.E, upd l.r (rowN l.E 0) (l.at 0 ++ [e])⟩
def doAdv (l : Lim) : Except Int Lim :=
 if l.at 2 ≠ [] then .error 241
 else if l.E < LAST then .ok ⟨l.E + 1, l.r⟩
 else .error 6
def doTake (l : Lim) : Except Int (Lim × Ent) :=
 match l.at 2 with
 | [] => .error 4
 | e :: rest => .ok (⟨l.E, upd l.r (rowN l.E 2) rest⟩, e)
def drain (l : Lim) : Lim := ⟨l.E, upd l.r (rowN l.E 2) []⟩
def doStep (l : Lim) (s : Ent) : Except Int (Lim × List Ent) :=
 if 0 ≤ s.1 then (doRet l s).map (fun l' => (l', [])) else (doAdv (drain l)).map (fun l' => (l', l.at 2))
def doRun : Lim → List Ent → List Ent → Except Int (Lim × List Ent)
 | l, [], took => .ok (l, took)
 | l, s :: rest, took =>
  match doStep l s with
  | .error k => .error k
  | .ok (l', out) => doRun l' rest (took ++ out)
theorem okP_mem {E : Nat} {l : List (Nat × Ent)} {met : List Int} (h : okP E l met = true) : ∀ p ∈ l, p.1 ≤ E ∧ entB p.2 = true ∧ p.2.1 ∉ met := by
 induction l generalizing met with
 | nil => intro p hp; simp at hp
 | cons q l ih =>
  rw [okP] at h
  simp only [Bool.and_eq_true, decide_eq_true_eq, Bool.not_eq_true', List.contains_eq_mem, decide_eq_false_iff_not] at h
  intro p hp
  rcases List.mem_cons.1 hp with rfl | hp
  · exact ⟨h.1.1, h.1.2.1, h.1.2.2⟩
  ·
   obtain ⟨h1, h2, h3⟩ := ih h.2 p hp
   exact ⟨h1, h2, fun hm => h3 (by simp [hm])⟩
theorem entB_out {e : Ent} (h : entB e = true) : 0 ≤ e.1 ∧ e.1 < 128 ∧ e.2 ≤ 1099511627775 := by
 unfold entB at h
 simpa using h
theorem okP_nodup {E : Nat} {l : List (Nat × Ent)} {met : List Int} (h : okP E l met = true) : (l.map (fun p => p.2.1)).Nodup := by
 induction l generalizing met with
 | nil => simp
 | cons q l ih =>
  rw [okP] at h
  simp only [Bool.and_eq_true] at h
  rw [List.map_cons, List.nodup_cons]
  refine ⟨fun hm => ?_, ih h.2⟩
  obtain ⟨p, hp, he⟩ := List.mem_map.1 hm
  exact (okP_mem h.2 p hp).2.2 (by simp [he])
theorem tag_len (a : Nat) (l : List Ent) : (tag a l).length = l.length := by simp [tag]
theorem okP_len {E : Nat} {l : List (Nat × Ent)} (h : okP E l [] = true) : l.length ≤ 128 := by
 have hn := okP_nodup h
 have hs : (l.map (fun p => p.2.1)) ⊆ (List.range 128).map (fun (n : Nat) => (n : Int)) := by
  intro s hs
  obtain ⟨p, hp, rfl⟩ := List.mem_map.1 hs
  obtain ⟨h1, h2, _⟩ := entB_out (okP_mem h p hp).2.1
  exact List.mem_map.2 ⟨p.2.1.toNat, by simp; omega, by omega⟩
 have := List.Nodup.length_le_of_subset hn hs
 simpa using this
end Go.Proofs.YtkicidopjihjmaaGreat.Li
set_option maxRecDepth 20000
namespace Go.Proofs.YtkicidopjihjmaaGreat.Li
open Go Go.RowKit
theorem rowN_ne {E a b : Nat} (ha : a < 3) (hb : b < 3) (h : a ≠ b) : rowN E a ≠ rowN E b := by
 unfold rowN; omega
theorem rowN_next (E a : Nat) (ha : a < 2) : rowN (E + 1) (a + 1) = rowN E a := by
 unfold rowN; congr 1; omega
theorem rowN_next0 (E : Nat) : rowN (E + 1) 0 = rowN E 2 := by
 unfold rowN; omega
theorem upd_ne (r : Nat → List Ent) {k j : Nat} (x : List Ent) (h : j ≠ k) : upd r k x j = r j := by simp [upd, h]
theorem at_upd (l : Lim) (a b : Nat) (x : List Ent) (ha : a < 3) (hb : b < 3) : (Lim.mk l.E (upd l.r (rowN l.E a) x)).at b = if b = a then x else l.at b := by
 unfold Lim.at
 by_cases h : b = a
 · subst h; simp [upd]
 · rw [if_neg h]; exact upd_ne _ _ (rowN_ne hb ha h)
theorem each_ret {l l' : Lim} {e : Ent} (h : doRet l e = .ok l') : l'.each = l.each ++ [(0, e)] ∧ l'.E = l.E ∧ entB e = true ∧ hasB (l.r 0) e.1 = false ∧ hasB (l.r 1) e.1 = false ∧ hasB (l.r 2) e.1 = false := by
 unfold doRet at h
 split at h
 · cases h
 ·
  rename_i h1
  split at h
  · cases h
  ·
   rename_i h2
   injection h with h
   subst h
   simp only [Bool.or_eq_true, not_or, Bool.not_eq_true] at h2
   refine ⟨?_, rfl, by simpa using h1, h2.1, h2.2.1, h2.2.2⟩
   unfold Lim.each
   rw [at_upd l 0 2 _ (by omega) (by omega), at_upd l 0 1 _ (by omega) (by omega), at_upd l 0 0 _ (by omega) (by omega)]
   simp [tag]
theorem each_adv {l l' : Lim} (h : doAdv l = .ok l') : l'.each = l.each.map (fun p => (p.1 + 1, p.2)) ∧ l'.E = l.E + 1 ∧ l.E < LAST ∧ l.at 2 = [] := by
 unfold doAdv at h
 split at h
 · cases h
 ·
  rename_i h1
  have h1 : l.at 2 = [] := by simpa using h1
  split at h
  ·
   rename_i h2
   injection h with h
   subst h
   refine ⟨?_, rfl, h2, h1⟩
   have e2 : (Lim.mk (l.E + 1) l.r).at 2 = l.at 1 := by unfold Lim.at; rw [rowN_next l.E 1 (by omega)]
   have e1 : (Lim.mk (l.E + 1) l.r).at 1 = l.at 0 := by unfold Lim.at; rw [rowN_next l.E 0 (by omega)]
   have e0 : (Lim.mk (l.E + 1) l.r).at 0 = [] := by unfold Lim.at; rw [rowN_next0]; exact h1
   unfold Lim.each
   rw [e2, e1, e0, h1]
   simp [tag, Function.comp_def]
  · cases h
theorem each_take {l l' : Lim} {e : Ent} (h : doTake l = .ok (l', e)) : l.each = (2, e) :: l'.each ∧ l'.E = l.E ∧ l.at 2 = e :: l'.at 2 := by
 unfold doTake at h
 split at h
 · cases h
 ·
  rename_i x rest hx
  injection h with h
  injection h with h1 h2
  subst h1; subst h2
  have e2 := at_upd l 2 2 rest (by omega) (by omega)
  have e1 := at_upd l 2 1 rest (by omega) (by omega)
  have e0 := at_upd l 2 0 rest (by omega) (by omega)
  rw [if_pos rfl] at e2
  rw [if_neg (by omega)] at e1 e0
  refine ⟨?_, rfl, by rw [e2, hx]⟩
  unfold Lim.each
  rw [e2, e1, e0, hx]
  simp [tag]
theorem okP_shift (E : Nat) (l : List (Nat × Ent)) (met : List Int) (h : okP E l met = true) : okP (E + 1) (l.map (fun p => (p.1 + 1, p.2))) met = true := by
 induction l generalizing met with
 | nil => rfl
 | cons p l ih =>
  rw [okP] at h
  rw [List.map_cons, okP]
  simp only [Bool.and_eq_true, decide_eq_true_eq] at h ⊢
  exact ⟨⟨by omega, h.1.2⟩, ih _ h.2⟩
theorem okP_less {E : Nat} {l : List (Nat × Ent)} {met met' : List Int} (hm : ∀ x ∈ met', x ∈ met) (h : okP E l met = true) : okP E l met' = true := by
 induction l generalizing met met' with
 | nil => rfl
 | cons p l ih =>
  rw [okP] at h ⊢
  simp only [Bool.and_eq_true, decide_eq_true_eq, Bool.not_eq_true', List.contains_eq_mem, decide_eq_false_iff_not] at h ⊢
  refine ⟨⟨h.1.1, h.1.2.1, fun hx => h.1.2.2 (hm _ hx)⟩, ih (fun x hx => ?_) h.2⟩
  rcases List.mem_cons.1 hx with rfl | hx
  · simp
  · simp [hm x hx]
theorem ok_out {l : Lim} (h : l.ok = true) : l.E ≤ LAST ∧ okP l.E l.each [] = true := by
 unfold Lim.ok at h; simpa using h
theorem ok_mk {l : Lim} (h1 : l.E ≤ LAST) (h2 : okP l.E l.each [] = true) : l.ok = true := by
 unfold Lim.ok; simp [h1, h2]
theorem mem_each {l : Lim} {p : Nat × Ent} (h : p ∈ l.each) : ∃ a, a < 3 ∧ p.1 = a ∧ p.2 ∈ l.at a := by
 unfold Lim.each tag at h
 simp only [List.mem_append, List.mem_map] at h
 rcases h with ⟨e, he, rfl⟩ | ⟨e, he, rfl⟩ | ⟨e, he, rfl⟩
 · exact ⟨2, by omega, rfl, he⟩
 · exact ⟨1, by omega, rfl, he⟩
 · exact ⟨0, by omega, rfl, he⟩
theorem hasB_false {l : List Ent} {s : Int} (h : hasB l s = false) : ∀ e ∈ l, e.1 ≠ s := by
 intro e he hs
 have : hasB l s = true := List.any_eq_true.2 ⟨e, he, by simpa using hs⟩
 rw [this] at h; cases h
theorem at_row {l : Lim} (a : Nat) : l.at a = l.r 0 ∨ l.at a = l.r 1 ∨ l.at a = l.r 2 := by
 unfold Lim.at
 have := rowN_lt l.E a
 generalize rowN l.E a = k at *
 match k, this with
 | 0, _ => simp
 | 1, _ => simp
 | 2, _ => simp
theorem ret_apart {l l' : Lim} {e : Ent} (h : doRet l e = .ok l') : ∀ p ∈ l.each, p.2.1 ≠ e.1 := by
 obtain ⟨_, _, _, h0, h1, h2⟩ := each_ret h
 intro p hp
 obtain ⟨a, _, _, hm⟩ := mem_each hp
 rcases at_row (l := l) a with hr | hr | hr <;> rw [hr] at hm
 · exact hasB_false h0 _ hm
 · exact hasB_false h1 _ hm
 · exact hasB_false h2 _ hm
theorem ok_ret {l l' : Lim} {e : Ent} (hok : l.ok = true) (h : doRet l e = .ok l') : l'.ok = true := by
 obtain ⟨h1, h2⟩ := ok_out hok
 obtain ⟨he, hE, hen, _⟩ := each_ret h
 refine ok_mk (by omega) ?_
 rw [he, hE, okP_snoc, h2, hen]
 simp only [Bool.true_and, Bool.and_eq_true, decide_eq_true_eq, Bool.not_eq_true', List.contains_eq_mem, decide_eq_false_iff_not]
 refine ⟨Nat.zero_le _, fun hm => ?_⟩
 unfold metOf at hm
 obtain ⟨p, hp, hpe⟩ := List.mem_map.1 (List.mem_reverse.1 hm)
 exact ret_apart h p hp hpe
theorem ok_adv {l l' : Lim} (hok : l.ok = true) (h : doAdv l = .ok l') : l'.ok = true := by
 obtain ⟨h1, h2⟩ := ok_out hok
 obtain ⟨he, hE, hlt, _⟩ := each_adv h
 refine ok_mk (by omega) ?_
 rw [he, hE]
 exact okP_shift _ _ _ h2
theorem okP_tail {E : Nat} {a b : List (Nat × Ent)} (h : okP E (a ++ b) [] = true) : okP E b [] = true := by
 rw [okP_append] at h
 simp only [Bool.and_eq_true] at h
 exact okP_less (fun x hx => by simp at hx) h.2
theorem ok_take {l l' : Lim} {e : Ent} (hok : l.ok = true) (h : doTake l = .ok (l', e)) : l'.ok = true := by
 obtain ⟨h1, h2⟩ := ok_out hok
 obtain ⟨he, hE, _⟩ := each_take h
 refine ok_mk (by omega) ?_
 rw [hE]
 exact okP_tail (a := [(2, e)]) (by rw [← show l.each = [(2, e)] ++ l'.each from he]; exact h2)
theorem held_ret {l l' : Lim} {e : Ent} (h : doRet l e = .ok l') : l'.held = l.held ++ [e] := by
 rw [← each_held, (each_ret h).1, List.map_append, each_held]; rfl
theorem held_adv {l l' : Lim} (h : doAdv l = .ok l') : l'.held = l.held := by
 rw [← each_held, (each_adv h).1, List.map_map, ← each_held]; rfl
theorem held_take {l l' : Lim} {e : Ent} (h : doTake l = .ok (l', e)) : l.held = e :: l'.held := by
 rw [← each_held, (each_take h).1, List.map_cons, each_held]
theorem ok_held_len {l : Lim} (h : l.ok = true) : l.held.length ≤ 128 := by
 rw [← each_held, List.length_map]; exact okP_len (ok_out h).2
theorem at_len {l : Lim} (h : l.ok = true) (a : Nat) : (l.at a).length ≤ 128 := by
 have h1 := ok_held_len h
 unfold Lim.held at h1
 rw [List.length_append, List.length_append] at h1
 have h0 : l.at a = l.at 0 ∨ l.at a = l.at 1 ∨ l.at a = l.at 2 := by
  unfold Lim.at
  have : rowN l.E a = rowN l.E 0 ∨ rowN l.E a = rowN l.E 1 ∨ rowN l.E a = rowN l.E 2 := by unfold rowN; omega
  rcases this with h | h | h <;> rw [h] <;> simp
 rcases h0 with h | h | h <;> rw [h] <;> omega
theorem row_len {l : Lim} (h : l.ok = true) {k : Nat} (hk : k < 3) : (l.r k).length ≤ 128 := by
 have : ∃ a, rowN l.E a = k := by
  unfold rowN
  have h3 := Nat.mod_lt l.E (show 0 < 3 by omega)
  refine ⟨(l.E + 3 - k) % 3, ?_⟩
  omega
 obtain ⟨a, ha⟩ := this
 have := at_len h a
 unfold Lim.at at this
 rwa [ha] at this
theorem ok_at {l : Lim} (h : l.ok = true) {a : Nat} (ha : a < 3) (hn : l.at a ≠ []) : a ≤ l.E := by
 obtain ⟨e, rest, he⟩ := List.exists_cons_of_ne_nil hn
 have hm : (a, e) ∈ l.each := by
  unfold Lim.each tag
  have : e ∈ l.at a := by rw [he]; simp
  match a, ha with
  | 0, _ => simp [this]
  | 1, _ => simp [this]
  | 2, _ => simp [this]
 exact (okP_mem (ok_out h).2 _ hm).1
end Go.Proofs.YtkicidopjihjmaaGreat.Li
