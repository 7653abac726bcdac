/-
  LayoutTables answers true for every table, row of words, and row of hashes, and leaves its arguments as they were. No condition.
-/
import Derived.Test.YtndlfofpldbldaaOpen
import Derived.Test.YtndlfofpldbldaaTables
namespace Go.Proofs.Ytndlfofpldbldaa
open Go Go.RowKit Go.WideShapes Go.ChangeShapes Go.ChangeAt Go.Joins
set_option linter.unusedVariables false
set_option linter.unusedSimpArgs false

theorem list_ints (k : IntKind) (P : Int → Prop) : ∀ l : List Value, (∀ j, j < l.length → ∃ z : Int, l[j]? = some (.int k z) ∧ P z) → ∃ ys : List Int, l = ys.map (Value.int k) ∧ ∀ y ∈ ys, P y
  | [], _ => ⟨[], rfl, by simp⟩
  | v :: l, h => by
    obtain ⟨z, hz, hp⟩ := h 0 (by simp)
    obtain ⟨ys, hy, hq⟩ := list_ints k P l (fun j hj => by simpa using h (j + 1) (by simpa using hj))
    simp at hz
    exact ⟨z :: ys, by rw [hz, hy]; rfl, fun y hm => by
      rcases List.mem_cons.1 hm with rfl | hm
      · exact hp
      · exact hq y hm⟩

section
variable {H : Type} {enc : TypeId × Value → H} {w : World} {base : Nat} {spare : Nat → Bool} {held : Bool}
theorem decWt (n : Nat) (cs' : List Value) (y : DataW H × List MemPlace) (hl : cs'.length = 1) (h : DataW.trod enc Try.prog w base spare held n 34 cs' = some y) : ∃ z : Int, cs' = encW z ∧ U64 z := by
  obtain ⟨a, ha, wa⟩ := dec_int Try.underlying34 hl h
  exact ⟨a, ha, u64_bounds wa⟩

set_option maxRecDepth 100000 in
/-- A table that came in, by its cells. -/
theorem open_tab {v : Value} {d : DataW H} {p : List MemPlace} {W : World} {b0 : Nat} (hv : Value.okWide Try.prog W .any b0 55 v) (h : DataW.Trod enc Try.prog w base spare held 55 v d p) :
    ∃ (X : Array Value) (n dd pp c l : Int) (ys : List Int), v = .agg X ∧ Tab X n dd pp c l ys := by
  have h34 : Try.prog.cellsOf 34 = 1 := by kernel_rfl
  have h3 : Try.prog.cellsOf 3 = 1 := by kernel_rfl
  have h52 : Try.prog.cellsOf 52 = 2 := by kernel_rfl
  have h53 : Try.prog.cellsOf 53 = 16 := by kernel_rfl
  have h55 : Try.prog.cellsOf 55 = 39 := by kernel_rfl
  obtain ⟨fs, hfs, hmap⟩ : ∃ fs, Try.prog.underlying 55 = some (.struct fs) ∧ fs.toList.map (fun f => (f.type, f.offset)) = [(34, 0), (3, 1), (34, 2), (3, 3), (3, 4), (52, 5), (53, 7), (53, 23)] := ⟨_, Try.underlying55, by kernel_rfl⟩
  obtain ⟨X, rfl, hX⟩ := okWide_struct (P := Try.prog) (w := W) (r := .any) (base := b0) (t := 55) (v := v) hfs hv
  rw [h55] at hX
  obtain ⟨fuel, hf⟩ := h
  obtain ⟨xs, m, _, _, hcl, hxl, hfield⟩ := DataW.trod_struct hfs hf
  have hlen : fs.size = 8 := by have := congrArg List.length hmap; simpa using this
  have hXl : X.toList.length = 39 := by simpa using hX
  have hc : (Value.agg X).cells.toList = X.toList := rfl
  rw [hc] at hfield hcl
  have field : ∀ (i t o : Nat), [(34, 0), (3, 1), (34, 2), (3, 3), (3, 4), (52, 5), (53, 7), (53, 23)][i]? = some (t, o) → ∃ y, DataW.trod enc Try.prog w base spare held m t ((X.toList.drop o).take (Try.prog.cellsOf t)) = some y := by
    intro i t o hi
    rw [← hmap, List.getElem?_map] at hi
    obtain ⟨f, hfi, he⟩ := Option.map_eq_some_iff.1 hi
    rw [Array.getElem?_toList] at hfi
    injection he with e1 e2
    have hil : i < fs.size := (Array.getElem?_eq_some_iff.1 hfi).1
    refine ⟨xs[i]'(by omega), ?_⟩
    rw [← e1, ← e2, hfield i f hfi, List.getElem?_eq_getElem]
  have one34 : ∀ i o : Nat, [(34, 0), (3, 1), (34, 2), (3, 3), (3, 4), (52, 5), (53, 7), (53, 23)][i]? = some (34, o) → o < 39 → ∃ z : Int, X[o]? = some (.int .u64 z) ∧ U64 z := by
    intro i o hi ho
    obtain ⟨y, hy⟩ := field i 34 o hi
    rw [h34] at hy
    obtain ⟨z, hz, wz⟩ := dec_int Try.underlying34 (by simp; omega) hy
    refine ⟨z, ?_, u64_bounds wz⟩
    have : ((X.toList.drop o).take 1)[0]? = some (.int .u64 z) := by rw [hz]; rfl
    rw [List.getElem?_take, if_pos (by omega), List.getElem?_drop, Array.getElem?_toList] at this
    simpa using this
  have one3 : ∀ i o : Nat, [(34, 0), (3, 1), (34, 2), (3, 3), (3, 4), (52, 5), (53, 7), (53, 23)][i]? = some (3, o) → o < 39 → ∃ z : Int, X[o]? = some (.int .i64 z) ∧ I64 z := by
    intro i o hi ho
    obtain ⟨y, hy⟩ := field i 3 o hi
    rw [h3] at hy
    obtain ⟨z, hz, wz⟩ := dec_int Try.underlying3 (by simp; omega) hy
    refine ⟨z, ?_, i64_bounds wz⟩
    have : ((X.toList.drop o).take 1)[0]? = some (.int .i64 z) := by rw [hz]; rfl
    rw [List.getElem?_take, if_pos (by omega), List.getElem?_drop, Array.getElem?_toList] at this
    simpa using this
  obtain ⟨n, c0, un⟩ := one34 0 0 rfl (by omega)
  obtain ⟨dd, c1, ud⟩ := one3 1 1 rfl (by omega)
  obtain ⟨pp, c2, up⟩ := one34 2 2 rfl (by omega)
  obtain ⟨c, c3, uc⟩ := one3 3 3 rfl (by omega)
  obtain ⟨l, c4, ul⟩ := one3 4 4 rfl (by omega)
  have arr : ∀ (i t o k : Nat), [(34, 0), (3, 1), (34, 2), (3, 3), (3, 4), (52, 5), (53, 7), (53, 23)][i]? = some (t, o) → Try.prog.underlying t = some (.array k 34) → Try.prog.cellsOf t = k → o + k ≤ 39 → ∀ j, j < k → ∃ z : Int, X[o + j]? = some (.int .u64 z) ∧ U64 z := by
    intro i t o k hi ht hk ho j hj
    obtain ⟨y, hy⟩ := field i t o hi
    rw [hk] at hy
    obtain ⟨z, hz, wz⟩ := dec_array_int ht h34 Try.underlying34 (by simp; omega) hy j hj
    refine ⟨z, ?_, u64_bounds wz⟩
    rw [List.getElem?_take, if_pos hj, List.getElem?_drop, Array.getElem?_toList] at hz
    exact hz
  obtain ⟨ys, hys, huy⟩ := list_ints .u64 U64 (X.toList.drop 5) (fun j hj => by
    rw [List.length_drop, hXl] at hj
    rw [List.getElem?_drop, Array.getElem?_toList]
    by_cases h1 : j < 2
    · exact arr 5 52 5 2 rfl Try.underlying52 h52 (by omega) j h1
    · by_cases h2 : j < 18
      · obtain ⟨z, hz⟩ := arr 6 53 7 16 rfl Try.underlying53 h53 (by omega) (j - 2) (by omega)
        rw [show 7 + (j - 2) = 5 + j by omega] at hz; exact ⟨z, hz⟩
      · obtain ⟨z, hz⟩ := arr 7 53 23 16 rfl Try.underlying53 h53 (by omega) (j - 18) (by omega)
        rw [show 23 + (j - 18) = 5 + j by omega] at hz; exact ⟨z, hz⟩)
  have hyl : ys.length = 34 := by have := congrArg List.length hys; simp at this; omega
  refine ⟨X, n, dd, pp, c, l, ys, rfl, ⟨⟨hX, c0, c1, c2, c3, c4, ?_⟩, hys, hyl, un, ud, up, uc, ul, huy⟩⟩
  intro u hu
  obtain ⟨j, hj, rfl⟩ := List.getElem_of_mem hu
  have e : X.toList[j]? = some (X.toList[j]) := List.getElem?_eq_getElem hj
  rw [Array.getElem?_toList] at e
  by_cases h5 : j < 5
  · have : j = 0 ∨ j = 1 ∨ j = 2 ∨ j = 3 ∨ j = 4 := by omega
    rcases this with rfl | rfl | rfl | rfl | rfl
    · rw [c0] at e; injection e with e; rw [← e]; rfl
    · rw [c1] at e; injection e with e; rw [← e]; rfl
    · rw [c2] at e; injection e with e; rw [← e]; rfl
    · rw [c3] at e; injection e with e; rw [← e]; rfl
    · rw [c4] at e; injection e with e; rw [← e]; rfl
  · have h6 : (X.toList.drop 5)[j - 5]? = X[j]? := by rw [List.getElem?_drop, Array.getElem?_toList]; congr 1; omega
    rw [hys, List.getElem?_map, List.getElem?_eq_getElem (by omega)] at h6
    rw [← h6] at e
    injection e with e
    rw [← e]; rfl
end

set_option maxRecDepth 100000 in
theorem tables_lifted (os : Os) (started : os.Started) (H : Type) (enc : TypeId × Value → H) :
    ReturnsInHanded {} Try.checked os 6 .any (Rows.layoutTablesSpec.pre6 enc Try.prog Try.f6 Rows.layoutTablesRow.domain false) (Rows.layoutTablesSpec.post enc Try.prog Try.f6 false true false false) := by
  refine returnsInHanded_of_change (C := Try.checked) own_knob started (by kernel_rfl) Try.func6
    (ChangeSpec.witness6 (enc := enc) (C := Try.checked) false ⟨#[], #[.agg zeroT.toArray, .slice none 0 0, .slice none 0 0], []⟩ 8 (by kernel_rfl) (by kernel_rfl) (by kernel_rfl) (by kernel_rfl)) ?_
  intro W base args ds gs before hval0 hW hcnd _
  have hval : ∀ (j : Nat) t v, Try.f6.params[j]? = some t → args[j]? = some v → Value.okWide Try.prog W .any base t v := hval0
  have hW' := hW
  obtain ⟨p, q, hA0, hV, rfl, hfz, hnd⟩ := hW
  have hA : DataW.TrodAll enc Try.prog W 0 (fun _ => true) true Try.f6.params.toList args.toList ds p := hA0
  rw [Try.params6] at hA hval
  obtain ⟨v0, v1, v2, d0, d1, d2, p0, p1, p2, rfl, rfl, rfl, h0, h1, h2⟩ := trodAll_three hA
  obtain ⟨X, n, dd, pp, c, l, ys, rfl, hT⟩ := open_tab (hval 0 55 v0 rfl rfl) h0
  obtain ⟨a1, l1, k1, rfl⟩ := okWide_slice Try.underlying24 (hval 1 24 v1 rfl rfl)
  obtain ⟨a2, l2, k2, rfl⟩ := okWide_slice Try.underlying24 (hval 2 24 v2 rfl rfl)
  obtain ⟨f1, h1⟩ := h1
  obtain ⟨f2, h2⟩ := h2
  obtain ⟨A1, n1, c1, xs1, e1, hn1, hm1, hx1, hr1, hw1⟩ := open_rd Try.underlying24 (by kernel_rfl) (by omega) decWt h1
  obtain ⟨A2, n2, c2, xs2, e2, hn2, hm2, hx2, hr2, hw2⟩ := open_rd Try.underlying24 (by kernel_rfl) (by omega) decWt h2
  simp only [Value.cells, List.cons.injEq, Value.slice.injEq, and_true] at e1 e2
  obtain ⟨rfl, rfl, rfl⟩ := e1
  obtain ⟨rfl, rfl, rfl⟩ := e2
  subst hx1 hx2
  clear hA0 hval0
  unfold maxLen at hm1 hm2
  refine (Tables_walk X n dd pp c l ys hT a1 a2 k1 k2 xs1 xs2 W hr1 hr2 hw1 hw2 hn1 hn2 (by omega) (by omega)).mono fun e W' ⟨he, hb⟩ => ?_
  subst he
  exact ⟨_, rfl, law_done laid_out hW' rfl (fun ds' h => by match ds', h with | [x, y, z], _ => rfl) rfl (by rw [Try.params6]; decide +kernel) hb (fun _ _ _ => trodAll_mk1 (shut_bool Try.underlying4 true)) (ok_one (by kernel_rfl) rfl (okWide_bool_mk Try.underlying4 true))⟩

theorem layoutTables_holds : Rows.LayoutTablesSaid :=
  OpenClaim.holds_of_wide 6 Try.f6 rfl rfl rfl rfl rfl rfl rfl ⟨rfl, rfl, rfl, rfl, rfl⟩ rfl rfl rfl rfl rfl (by kernel_rfl) Try.func6 (by kernel_rfl)
    (of_decide_eq_true (by kernel_rfl)) (by unfold Func.isWrapper; first | (rw [if_pos (by decide +kernel)]; kernel_rfl) | (rw [if_neg (by decide +kernel)]; exact ⟨rfl, rfl⟩))
    (fun os started H enc _ => tables_lifted os started H enc)
end Go.Proofs.Ytndlfofpldbldaa
