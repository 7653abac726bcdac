/-
  Ranges over functions: what an iterator promises (it ends, it is stopped, or it leaves by a panic), and the law for the statement that ranges over one.
-/
import Derived.Test.YtfpbabafeecncaaMem
import Derived.RangeFuncNested
import Derived.RangeFuncBound
import Derived.RangeFuncCalls
import Derived.RangeFuncLeaves
import Derived.OwnWalkIn
import Derived.TacticsInMore
import Derived.LoopNIn
import Derived.LoopIn
set_option linter.unusedVariables false
set_option linter.unusedSimpArgs false
namespace Go.Proofs.Ytfpbabafeecncaa
open Go Go.RowKit

/-- Block g is a row of cells, of which none is frozen. -/
def RowIs (w : World) (g : Nat) (t : TypeId) (cs : Array Value) : Prop := w.heap[g]? = some (.cells cs t (0, 0))
/-- All blocks of cells lie as they lay. -/
structure CellsLie (A B : World) : Prop where
  size : A.heap.size ≤ B.heap.size
  same : ∀ (j : Nat) (o : Obj), A.heap[j]? = some o → o.isCells = true → B.heap[j]? = some o

theorem CellsLie.of_below {A B : World} (h : Below A.heap.size A B) : CellsLie A B :=
  ⟨h.size, fun j o hj _ => (h.block j (Array.getElem?_eq_some_iff.1 hj).1).trans hj⟩
theorem CellsLie.putObj {A : World} {l : Nat} {o : Obj} (o' : Obj) (h : A.heap[l]? = some o) (hc : o.isCells = false) : CellsLie A (A.putObj l o') :=
  ⟨by simp, fun j o'' hj ho => by
    by_cases e : j = l
    · subst e; rw [h] at hj; cases hj; rw [hc] at ho; cases ho
    · exact (World.putObj_heap_other e).trans hj⟩
/-- A state of which nothing turns where all cells lie. -/
def Stays {β : Type} (I : β → World → Prop) : Prop := ∀ s A B, I s A → CellsLie A B → I s B
theorem KeepsOthers.of_below {A B : World} (h : Below A.heap.size A B) : KeepsOthers A B :=
  ⟨h.size, fun j o hj _ => (h.block j (Array.getElem?_eq_some_iff.1 hj).1).trans hj⟩
theorem below_putObj {n₀ : Nat} {W : World} {l : Nat} {o : Obj} (o' : Obj) (hl : n₀ ≤ l) : Below n₀ W (W.putObj l o') :=
  ⟨rfl, rfl, rfl, by simp, fun j hj => World.putObj_heap_other (by omega)⟩

/-- WHAT AN ITERATOR PROMISES, for rounds that go on, or say 'no more', and keep the blocks K: all have come (S) · a part, a round having stopped it (Sp) · a part, and it has left by the panic ch (Sn). -/
def Seq3 {α : Type} (P : Program) (gf : Nat) (lb : Array Value) (encs : α → Array Value) (K : Nat → Prop) (S Sp Sn : List α → Prop) (ch : List PanicEntry) (N : Nat) (w : World) : Prop :=
  ∀ (l : Nat) (J Jx : List α → World → Prop) (W : World), Below w.heap.size w W → (∀ s A B, J s A → Below A.heap.size A B → J s B) → (∀ s A B, Jx s A → Below A.heap.size A B → Jx s B) →
    (∀ pre x W1, J pre W1 → pre.length < N → YieldAt Fence.wide 3 P l (encs x) W1 fun e W' =>
      (e = .returned (.bool true) ∧ J (pre ++ [x]) W' ∧ ∀ j, K j → W'.heap[j]? = W1.heap[j]?) ∨ (e = .returned (.bool false) ∧ Jx (pre ++ [x]) W')) →
    J [] W →
    Calls P gf (#[.func (.yield l) #[] #[]] ++ lb) W fun e W' =>
      (∃ v, e = .returned v ∧ ((∃ xs, S xs ∧ J xs W') ∨ (∃ pre, Sp pre ∧ Jx pre W'))) ∨ (e = .panicked ch ∧ ∃ pre, Sn pre ∧ J pre W')

/-- How a round may be left. -/
def roundEnd {α : Type} (n₀ : Nat) (K : Nat → Prop) (I : List α → World → Prop) (Ix : Code → List α → World → Prop) (xs : List α) (W : World) : Exit → Act → World → Prop
  | .normal, _, W' => KeepsOthers W W' ∧ Below n₀ W W' ∧ (∀ j, K j → W'.heap[j]? = W.heap[j]?) ∧ I xs W'
  | .ret, _, W' => KeepsOthers W W' ∧ Below n₀ W W' ∧ Ix .ret xs W'
  | .exit id, _, W' => KeepsOthers W W' ∧ Below n₀ W W' ∧ Ix (.exit id) xs W'
  | .goto t, _, W' => KeepsOthers W W' ∧ Below n₀ W W' ∧ Ix (.goto t) xs W'
  | .panic _, _, _ => False
  | .outgrown, _, _ => False

/-- The act behind a range over a function: it has the mark of the rounds' deferred calls (there are none). -/
def marked (a : Act) (D : Nat) : Act := { a with defers := { target := .collected D, args := #[] } :: a.defers }

theorem wp_range {α : Type} {P : Program} {g : Operand} {ps : Array Tmp} {assign body : Code} {Q : Exit → Act → World → Prop} {a : Act} {w : World}
    {gf : Nat} {lb : Array Value} (hg : a.eval g = .func (.func gf) #[] lb) (eg : ∀ args w, (callFunc gf args).run P w = .ok (.enter gf args) w)
    {encs : α → Array Value} {K : Nat → Prop} {S Sp Sn : List α → Prop} {ch : List PanicEntry} {N : Nat} {w0 : World} (hseq : Seq3 P gf lb encs K S Sp Sn ch N w0)
    (n₀ : Nat) (hn : n₀ ≤ w.heap.size) (hK : ∀ j, K j → j < w.heap.size) (hb0 : Below w0.heap.size w0 w) (hps : ∀ x, (encs x).size = ps.size)
    (I : List α → World → Prop) (Ix : Code → List α → World → Prop) (hI : Stays I) (hIx : ∀ c, Stays (Ix c)) (h0 : I [] w) (Ax : Array Value → α → Act → World → Prop) (hAx : ∀ T a', Stays (fun x W => Ax T x a' W))
    (hassign : ∀ (l : Nat) (pre : List α) (x : α) (W : World) (R : Act → World → Prop), I pre W → Below n₀ w W → w.heap.size ≤ W.heap.size → pre.length < N →
      (∀ a' W', KeepsOthers W W' → Below n₀ W W' → (∀ j, K j → W'.heap[j]? = W.heap[j]?) → I pre W' → Ax a.tmps x a' W' → R a' W') →
      assign.wpIn (Fence.wide.inRound l) 3 P (Exit.then R (fun _ _ _ => False)) { tmps := (ps.zip (encs x)).foldl (fun t (p, v) => t.setIfInBounds p v) a.tmps, defers := [] } W)
    (hbody : ∀ (l : Nat) (pre : List α) (x : α) (a' : Act) (W : World), I pre W → Ax a.tmps x a' W → Below n₀ w W → w.heap.size ≤ W.heap.size → pre.length < N → body.wpIn (Fence.wide.inRound l) 3 P (roundEnd n₀ K I Ix (pre ++ [x]) W) a' W)
    (hdone : ∀ (xs : List α) (W : World), S xs → I xs W → Below n₀ w W → w.heap.size < W.heap.size → W.heap[w.heap.size]? = some (.deferred (some [])) → Q .normal (marked a w.heap.size) W)
    (hstop : ∀ (c : Code) (pre : List α) (W : World), Sp pre → Ix c pre W → Below n₀ w W → w.heap.size < W.heap.size → W.heap[w.heap.size]? = some (.deferred (some [])) → c.wp P Q (marked a w.heap.size) W)
    (hpanic : ∀ (pre : List α) (W : World), Sn pre → I pre W → Below n₀ w W → w.heap.size < W.heap.size → W.heap[w.heap.size]? = some (.deferred (some [])) → Q (.panic ch) (marked a w.heap.size) W) :
    (Code.rangeFunc g ps assign body).wp P Q a w := by
  refine (wpIn_wide (n := 3)).1 (wpIn_rangeFunc fun fn _ => ?_)
  obtain ⟨mk, hmk⟩ : ∃ mk : LoopState → Option Code → Obj, mk = fun st pe => .loop { state := st, pending := pe, fn, tmps := a.tmps, params := ps, assign, body, defers := w.heap.size } := ⟨_, rfl⟩
  have hcl : ∀ st pe, (mk st pe).isCells = false := fun st pe => by rw [hmk]; rfl
  obtain ⟨W1, hW1⟩ : ∃ W1, (w.alloc (.deferred (some []))).alloc (mk .ready none) = W1 := ⟨_, rfl⟩
  have hbW : Below w.heap.size w W1 := by rw [← hW1]; exact ((Below.refl _ w).alloc (Nat.le_refl _) _).alloc (by simp) _
  have hL1 : W1.heap[w.heap.size + 1]? = some (mk .ready none) := by
    rw [← hW1]; have := World.alloc_heap_new (w.alloc (.deferred (some []))) (mk .ready none); rwa [World.size_alloc] at this
  have hD1 : W1.heap[w.heap.size]? = some (.deferred (some [])) := by rw [← hW1]; exact (Below.heap_alloc _ _ _ (by simp)).trans (World.alloc_heap_new w _)
  -- what is kept beside the invariant: the loop's record, the block of deferred calls
  let B (st : LoopState) (pe : Option Code) (W : World) : Prop := Below n₀ w W ∧ w.heap.size + 1 < W.heap.size ∧ W.heap[w.heap.size + 1]? = some (mk st pe) ∧ W.heap[w.heap.size]? = some (.deferred (some []))
  have hB : ∀ {st pe} {A C : World}, B st pe A → Below A.heap.size A C → B st pe C := fun {st pe A C} h hb =>
    ⟨h.1.trans (hb.mono (by have := h.2.1; omega)), Nat.lt_of_lt_of_le h.2.1 hb.size, (hb.block _ h.2.1).trans h.2.2.1, (hb.block _ (by have := h.2.1; omega)).trans h.2.2.2⟩
  have hput : ∀ {st pe st' pe'} {A : World}, B st pe A → B st' pe' (A.putObj (w.heap.size + 1) (mk st' pe')) := fun {st pe st' pe' A} h =>
    ⟨h.1.trans (below_putObj (o := mk st pe) _ (by omega)), by simpa using h.2.1, World.putObj_heap_same h.2.1, (World.putObj_heap_other (by omega)).trans h.2.2.2⟩
  have hIp : ∀ {s st pe A} (o' : Obj), I s A → B st pe A → I s (A.putObj (w.heap.size + 1) o') := fun o' hi h => hI _ _ _ hi (CellsLie.putObj o' h.2.2.1 (hcl _ _))
  have hIxp : ∀ {c s st pe A} (o' : Obj), Ix c s A → B st pe A → Ix c s (A.putObj (w.heap.size + 1) o') := fun o' hi h => hIx _ _ _ _ hi (CellsLie.putObj o' h.2.2.1 (hcl _ _))
  have hKp : ∀ {A : World} (o' : Obj) j, K j → (A.putObj (w.heap.size + 1) o').heap[j]? = A.heap[j]? := fun o' j hj => World.putObj_heap_other (by have := hK j hj; omega)
  refine ⟨w.heap.size + 1, [{ target := .collected w.heap.size, args := #[] }], W1, { target := .fn (.func gf) lb, args := #[.func (.yield (w.heap.size + 1)) #[] #[]] }, W1, gf,
    #[.func (.yield (w.heap.size + 1)) #[] #[]] ++ lb, W1, ?_, ?_, ?_, ?_, fun h => (by cases h), callsIn_wide.2 ?_⟩
  · rw [← hW1, hmk]; exact run_enterLoop_outer _ _ _ _ _
  · simp only [resolve, hg]; simp [go_sem]
  · intro f' hf'; simp [Target.leads] at hf'; subst hf'; trivial
  · simp [invoke, go_sem, eg]
  refine (hseq (w.heap.size + 1) (fun pre W => I pre W ∧ B .ready none W) (fun pre W => ∃ c, Ix c pre W ∧ B .done (some c) W) W1 (hb0.trans (hbW.mono hb0.size))
    (fun s A C h hb => ⟨hI _ _ _ h.1 (CellsLie.of_below hb), hB h.2 hb⟩) (fun s A C h hb => by obtain ⟨c, h1, h2⟩ := h; exact ⟨c, hIx c _ _ _ h1 (CellsLie.of_below hb), hB h2 hb⟩)
    ?_ ⟨hI _ _ _ h0 (CellsLie.of_below hbW), hbW.mono hn, by rw [← hW1]; simp, hL1, hD1⟩).mono ?_
  · rintro pre x W ⟨hi, hb⟩ hlen
    have hy := run_yield (P := P) (args := encs x) (by rw [hb.2.2.1, hmk]) (hps x)
    refine ⟨fn, _, assign, body, hy, roundIn_of_wpIn trivial (hassign _ pre x W _ hi hb.1 (by have := hb.2.1; omega) hlen fun a' V hkV hbV hKV hiV haV => ?_)⟩
    have hbv : B .ready none V := ⟨hb.1.trans hbV, Nat.lt_of_lt_of_le hb.2.1 hkV.size, hkV.same _ _ hb.2.2.1 (hcl _ _), hkV.same _ _ hb.2.2.2 rfl⟩
    refine ⟨_, run_beginRound (by rw [hbv.2.2.1, hmk]) rfl, ?_⟩
    have hbb : B .busy none (V.putObj (w.heap.size + 1) (mk .busy none)) := hput hbv
    have hbo := hbody (w.heap.size + 1) pre x a' (V.putObj (w.heap.size + 1) (mk .busy none)) (hIp _ hiV hbv) (hAx _ a' _ _ _ haV (CellsLie.putObj _ hbv.2.2.1 (hcl _ _))) hbb.1 (by have := hbb.2.1; omega) hlen
    have hbo2 := hbo
    rw [hmk] at hbo2
    refine wpIn_mono hbo2 ?_
    have fin : ∀ (jump : Option Code) (W3 : World), KeepsOthers (V.putObj (w.heap.size + 1) (mk .busy none)) W3 → Below n₀ (V.putObj (w.heap.size + 1) (mk .busy none)) W3 →
        B .busy none W3 ∧ (Instr.endRound (w.heap.size + 1) jump).run P W3 = .ok (.bool jump.isNone) (W3.putObj (w.heap.size + 1) (mk (if jump.isNone then .ready else .done) jump)) := fun jump W3 hk hbl => by
      have h3 : W3.heap[w.heap.size + 1]? = some (mk .busy none) := hk.same _ _ hbb.2.2.1 (hcl _ _)
      refine ⟨⟨hbb.1.trans hbl, Nat.lt_of_lt_of_le hbb.2.1 hk.size, h3, hk.same _ _ hbb.2.2.2 rfl⟩, ?_⟩
      rw [hmk] at h3 ⊢
      exact run_endRound (P := P) jump h3
    rw [hmk] at fin
    rintro e a3 W3 hp
    cases e with
    | normal =>
      obtain ⟨hk3, hbl3, hkk, hi3⟩ := hp
      obtain ⟨hb3, hr⟩ := fin none W3 hk3 hbl3
      refine ⟨_, _, hr, .inl ⟨rfl, ⟨by have := hIp (mk .ready none) hi3 hb3; rw [hmk] at this; exact this, by have := hput (st' := .ready) (pe' := none) hb3; rw [hmk] at this; exact this⟩, fun j hj => ?_⟩⟩
      exact (hKp _ j hj).trans ((hkk j hj).trans ((hKp _ j hj).trans (hKV j hj)))
    | ret =>
      obtain ⟨hk3, hbl3, hi3⟩ := hp
      obtain ⟨hb3, hr⟩ := fin (some .ret) W3 hk3 hbl3
      exact ⟨_, _, hr, .inr ⟨rfl, .ret, by have := hIxp (mk .done (some .ret)) hi3 hb3; rw [hmk] at this; exact this, by have := hput (st' := .done) (pe' := some .ret) hb3; rw [hmk] at this; exact this⟩⟩
    | exit id =>
      obtain ⟨hk3, hbl3, hi3⟩ := hp
      obtain ⟨hb3, hr⟩ := fin (some (.exit id)) W3 hk3 hbl3
      exact ⟨_, _, hr, .inr ⟨rfl, .exit id, by have := hIxp (mk .done (some (.exit id))) hi3 hb3; rw [hmk] at this; exact this, by have := hput (st' := .done) (pe' := some (.exit id)) hb3; rw [hmk] at this; exact this⟩⟩
    | goto t =>
      obtain ⟨hk3, hbl3, hi3⟩ := hp
      obtain ⟨hb3, hr⟩ := fin (some (.goto t)) W3 hk3 hbl3
      exact ⟨_, _, hr, .inr ⟨rfl, .goto t, by have := hIxp (mk .done (some (.goto t))) hi3 hb3; rw [hmk] at this; exact this, by have := hput (st' := .done) (pe' := some (.goto t)) hb3; rw [hmk] at this; exact this⟩⟩
    | panic _ => exact hp.elim
    | outgrown => exact hp.elim
  · rintro e W2 (⟨v, rfl, (⟨xs, hS, hi, hb⟩ | ⟨pre, hS, c, hi, hb⟩)⟩ | ⟨rfl, pre, hS, hi, hb⟩)
    · have hend := run_endLoop (P := P) (w := W2) (l := w.heap.size + 1) (by rw [hb.2.2.1, hmk]) (by simp)
      have hb' := hput (st' := .exhausted) (pe' := none) hb
      have hi' := hIp (mk .exhausted none) hi hb
      rw [hmk] at hb' hi'
      exact ⟨none, _, hend, hdone xs _ hS hi' hb'.1 (by have := hb.2.1; simp; omega) hb'.2.2.2⟩
    · have hend := run_endLoop (P := P) (w := W2) (l := w.heap.size + 1) (by rw [hb.2.2.1, hmk]) (by simp)
      have hb' := hput (st' := .exhausted) (pe' := some c) hb
      have hi' := hIxp (mk .exhausted (some c)) hi hb
      rw [hmk] at hb' hi'
      exact ⟨some c, _, hend, wpIn_wide.2 (hstop c pre _ hS hi' hb'.1 (by have := hb.2.1; simp; omega) hb'.2.2.2)⟩
    · exact hpanic pre _ hS hi hb.1 (by have := hb.2.1; omega) hb.2.2.2

/-- The loop's variable in a box of its own. -/
def BoxAct (k : Nat) (ps : Array Tmp) (vs : Array Value) (slot : Nat) (t : TypeId) (cs : Array Value) (T : Array Value) (a' : Act) (W : World) : Prop :=
  ∃ Bx, RowIs W Bx t cs ∧ k < Bx ∧ a' = { tmps := ((ps.zip vs).foldl (fun t (p, v) => t.setIfInBounds p v) T).setIfInBounds slot (.pointer (some ⟨Bx, 0, none⟩)), defers := [] }
theorem BoxAct.stays {α : Type} (k : Nat) (ps : Array Tmp) (vs : α → Array Value) (slot : Nat) (t : TypeId) (cs : α → Array Value) (T : Array Value) (a' : Act) : Stays (fun x W => BoxAct k ps (vs x) slot t (cs x) T a' W) :=
  fun _ _ _ ⟨Bx, h1, h2, h3⟩ hl => ⟨Bx, hl.same _ _ h1 rfl, h2, h3⟩

/-- A function's contract out of its body's walk, where the body ranges over functions. -/
theorem calls_of_wp_marks {P : Program} {f : FuncId} {fn : Func} {c : Code} {args : Array Value} {w : World} {R : Ending → World → Prop} (hf : P.funcs[f]? = some fn) (hb : fn.body = some c)
    (h : c.wp P (bodyPostM Fence.wide 3 P fn R) { tmps := args ++ Array.replicate (fn.ntmps - args.size) undef, defers := [] } w) : Calls P f args w R :=
  callsIn_wide.1 (callsIn_of_wp_marks hf hb trivial ((wpIn_wide (n := 3)).2 h) rfl)

/-- append, whatever the source, in a round. -/
theorem wpListIn_app {F : Fence} {nn : Nat} {P : Program} {t e : TypeId} {size bytes : Nat} {z : Value} {ops : Array Oper} {rest : List Oper} {o : Oper} {a : Act} {Q : Exit → Act → World → Prop} {w : World}
    (E : ElemOk P t e size bytes z) (hgd : o.guard = none) (s x : Operand) (ho : o.op = .call { callee := .builtin .append, args := #[s, x], argTypes := #[t, t] })
    {base n : Nat} {xs : List Value} {v : Value} (hs : a.eval s = v) (hown : w.ownsRow base e size v n xs)
    {B : Nat} {A : Option Addr} {m c : Nat} {news : List Value} (hx : a.eval x = .slice A m c) (hr : Rd w B size A m news) (h1 : ∀ u ∈ news, u.oneCell' = true)
    (hb : (n + m) * bytes ≤ 140737488355328) (hbase : base ≤ w.heap.size)
    (h : ∀ v' w', w'.ownsRow base e size v' (n + m) (xs ++ news) → Below base w w' → w.grownBy w' v.ownBlock → (v'.ownBlock = v.ownBlock ∨ v'.ownBlock = some w.heap.size) → wpListIn F nn P ops Q rest (a.put o.dst v') w') : wpListIn F nn P ops Q (o :: rest) a w :=
  wpListIn_plain hgd fun K hK => by
    obtain ⟨i, hi, hz, hsize, hby⟩ := info_parts E.info
    obtain ⟨v', w', hrun, h2, h3, h4⟩ := run_append_any (P := P) w base t o.type e i z size bytes E.ht hi hz hsize hby E.hzs E.hsz v n xs hown B A m c news hr h1 (E.room hb) hb hbase
    unfold Oper.wpIn
    refine ⟨by simp [Oper.about, ho, resolve, Target.leads, Sem.run_pure], ?_⟩
    rw [Oper.semAt_plain F _ _ (by rw [ho]; intro c hc'; cases hc')]
    unfold execOp
    simp only [ho, resolve, invoke, builtin, Sem.run_bind, Sem.run_pure, Result.andThen_ok, List.map_toArray, List.map_cons, List.map_nil, hs, hx, hrun]
    exact hK _ _ (h v' w' h2 (below_of_grown hown h3 hbase) h3 h4)
end Go.Proofs.Ytfpbabafeecncaa
