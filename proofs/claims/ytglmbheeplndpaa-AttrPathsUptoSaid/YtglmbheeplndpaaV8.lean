/- The value machine, part 8: a struct's build; what goes over from slot to slot. -/
import Derived.Test.YtglmbheeplndpaaV7
set_option linter.all false
set_option linter.unusedSimpArgs false
set_option linter.unusedVariables false
namespace Go.V
open Go

section
variable {P : Program} {S : Stab} {loc : Nat → Nat} {ow : Nat → Option Pl} {w : World} {N : Nat} {st : VSt} {vals : Nat → Value}

theorem RepC.oneCell {box : Tab} {p : Pl} {c : C} {v : Value} (h : RepC S loc box ow w p c v) : v.oneCell' = true := by
  cases c with
  | d x => exact RepD.oneCell h
  | nilsl => rw [show v = .slice none 0 0 from h]; rfl
  | osl e sz xs => exact RepD.oneCell h.1
  | ptr k ver off => obtain ⟨a, rfl, _⟩ := h; rfl
  | cptr xs => obtain ⟨g, o, rfl, _⟩ := h; rfl
  | msl k ver off len => obtain ⟨a, c, rfl, _⟩ := h; rfl
  | fn f caps => obtain ⟨vs, rfl, _⟩ := h; rfl

theorem cells_one {v : Value} (h : v.oneCell' = true) : v.cells = #[v] := by cases v <;> simp [Value.oneCell'] at h <;> rfl

/-- The cells of a value that has some. -/
theorem RepV.cellsRep {i : Nat} {x : SV} {v : Value} {cs : List C} (h : RepV S loc st.box ow w i x v) (hx : x.cells = some cs) :
    v.cells.size = cs.length ∧ ∀ (m : Nat) (c : C), cs[m]? = some c → ∃ u, v.cells[m]? = some u ∧ RepC S loc st.box ow w (.slot i 0) c u := by
  cases x with
  | c c =>
    cases hx
    have hc := h.cinv
    rw [cells_one hc.oneCell]
    refine ⟨rfl, fun m c' hm => ?_⟩
    cases m with
    | zero => cases hm; exact ⟨v, rfl, hc⟩
    | succ m => simp at hm
  | agg xs =>
    cases hx
    obtain ⟨vs, rfl, hs, hm⟩ := (show RepV1 S loc st.box ow w i 0 (.agg cs) v from h)
    exact ⟨hs, fun m c hc => (hm m c hc).2⟩
  | tup xs => cases hx

theorem RepV.cellsNot {i : Nat} {x : SV} {v : Value} {cs : List C} (h : RepV S loc st.box ow w i x v) (hx : x.cells = some cs) : ∀ u ∈ v.cells.toList, u.oneCell' = true := by
  intro u hu
  obtain ⟨h1, h2⟩ := h.cellsRep hx
  obtain ⟨m, hm, rfl⟩ := List.getElem_of_mem hu
  have hm' : m < v.cells.size := by simpa using hm
  obtain ⟨u', hu', hr⟩ := h2 m _ (List.getElem?_eq_getElem (by omega))
  rw [Array.getElem?_eq_getElem hm'] at hu'
  simp only [Option.some.injEq] at hu'
  simp only [Array.getElem_toList]
  rw [hu']
  exact hr.oneCell

/-- A list of cells and what they are in memory; none of them owns anything. -/
def ListRep (S : Stab) (loc : Nat → Nat) (box : Tab) (ow : Nat → Option Pl) (w : World) (cs : List C) (us : Array Value) : Prop :=
  us.size = cs.length ∧ ∀ (m : Nat) (c : C), cs[m]? = some c → isOsl c = false ∧ ∃ u, us[m]? = some u ∧ RepC S loc box ow w (.slot 0 0) c u

theorem foldl_set (off : Nat) : ∀ (vs : List Value) (k : Nat) (cells : Array Value), off + k + vs.length ≤ cells.size →
    (vs.zipIdx k).foldl (fun cs (p : Value × Nat) => cs.setIfInBounds (off + p.2) p.1) cells = (cells.toList.take (off + k) ++ vs ++ cells.toList.drop (off + k + vs.length)).toArray
  | [], k, cells, h => by simp
  | v :: vs, k, cells, h => by
    simp only [List.zipIdx_cons, List.foldl_cons, List.length_cons] at h ⊢
    rw [foldl_set off vs (k + 1) _ (by simp; omega)]
    apply Array.ext'
    simp only [Array.toList_setIfInBounds]
    have hlt : off + k < cells.toList.length := by simp; omega
    have e1 : cells.toList.set (off + k) v = cells.toList.take (off + k) ++ (v :: cells.toList.drop (off + k + 1)) := by
      rw [List.set_eq_take_append_cons_drop, if_pos hlt]
    have e2 : (cells.toList.take (off + k)).length = off + k := by rw [List.length_take]; omega
    have e3 : (cells.toList.set (off + k) v).take (off + (k + 1)) = cells.toList.take (off + k) ++ [v] := by
      rw [e1, List.take_append, e2, List.take_of_length_le (by rw [e2]; omega), show off + (k + 1) - (off + k) = 1 by omega]
      rfl
    have e4 : (cells.toList.set (off + k) v).drop (off + (k + 1) + vs.length) = cells.toList.drop (off + k + (vs.length + 1)) := by
      rw [List.drop_set_of_lt (by omega)]
      congr 1
      omega
    rw [e3, e4]
    simp

theorem ListRep.splice {cs : List C} {us : Array Value} (h : ListRep S loc st.box ow w cs us) {off : Nat} {new : List C} {vs : List Value} (hl : vs.length = new.length) (hle : off + new.length ≤ cs.length)
    (hn : ∀ (m : Nat) (c : C), new[m]? = some c → isOsl c = false ∧ ∃ u, vs[m]? = some u ∧ RepC S loc st.box ow w (.slot 0 0) c u) :
    ListRep S loc st.box ow w (spliceC cs off new) (us.toList.take off ++ vs ++ us.toList.drop (off + vs.length)).toArray := by
  refine ⟨?_, fun m c hc => ?_⟩
  · simp only [List.size_toArray, List.length_append, List.length_take, List.length_drop, Array.length_toList, spliceC, h.1, hl]
  · simp only [spliceC, List.append_assoc, List.getElem?_append, List.length_take, List.getElem?_take, List.getElem?_drop] at hc
    have e1 : min off cs.length = off := by omega
    rw [e1] at hc
    simp only [List.getElem?_toArray, List.append_assoc, List.getElem?_append, List.length_take, List.getElem?_take, List.getElem?_drop, Array.length_toList]
    have e2 : min off us.size = off := by have := h.1; omega
    rw [e2, hl]
    split at hc
    · rename_i hm
      simp only [hm, if_true] at hc ⊢
      have := h.2 m c hc
      simpa using this
    · rename_i hm
      rw [if_neg hm]
      split at hc
      · rename_i hm2
        rw [if_pos hm2]
        exact hn _ c hc
      · rename_i hm2
        rw [if_neg hm2]
        have := h.2 _ c hc
        simpa using this

/-- The parts of a composite: what the program lays where. -/
def PartsRep (S : Stab) (loc : Nat → Nat) (st : VSt) (ow : Nat → Option Pl) (w : World) (pl : Nat → Option (Nat × Nat)) : List (Nat × Value) → List (Nat × Nat × VX) → Prop
  | [], [] => True
  | (i, u) :: r, (off, n, x) :: r' => pl i = some (off, n) ∧ (∃ d, RepV S loc st.box ow w d (x.get st.env) u) ∧ PartsRep S loc st ow w pl r r'
  | _, _ => False

theorem fill_rep (pl : Nat → Option (Nat × Nat)) : ∀ (parts : List (Nat × Value)) (vps : List (Nat × Nat × VX)) (cells : Array Value) (cs cs' : List C), PartsRep S loc st ow w pl parts vps → ListRep S loc st.box ow w cs cells →
    buildParts st.env cs vps = some cs' → ∃ cells', Instr.fill pl cells parts = some cells' ∧ ListRep S loc st.box ow w cs' cells'
  | [], [], cells, cs, cs', _, hr, hb => by
    simp only [buildParts, Option.some.injEq] at hb
    subst hb
    exact ⟨cells, rfl, hr⟩
  | (i, u) :: r, (off, n, x) :: r', cells, cs, cs', hp, hr, hb => by
    obtain ⟨h1, ⟨d, h2⟩, h3⟩ := hp
    simp only [buildParts] at hb
    split at hb
    · rename_i ys hys
      split at hb
      · rename_i hc
        obtain ⟨c1, c2⟩ := h2.cellsRep hys
        have hsz : u.cells.toList.length = n := by simp; omega
        have hf := foldl_set off u.cells.toList 0 cells (by have := hr.1; simp; omega)
        have hsp := hr.splice (off := off) (new := ys.map C.copy) (vs := u.cells.toList) (by simp; omega) (by simp; omega) (fun m c hm => by
          rw [List.getElem?_map] at hm
          obtain ⟨c0, h0, rfl⟩ := Option.map_eq_some_iff.1 hm
          obtain ⟨v, hv, hrv⟩ := c2 m c0 h0
          exact ⟨isOsl_copy c0, v, by simpa using hv, hrv.copy _⟩)
        obtain ⟨cells', g1, g2⟩ := fill_rep pl r r' _ _ cs' h3 hsp hb
        refine ⟨cells', ?_, g2⟩
        have hz : u.cells.zipIdx.foldl (fun cs (p : Value × Nat) => cs.setIfInBounds (off + p.2) p.1) cells = (cells.toList.take off ++ u.cells.toList ++ cells.toList.drop (off + u.cells.toList.length)).toArray := by
          rw [← Array.foldl_toList, Array.toList_zipIdx]
          simpa using hf
        simp only [Instr.fill, h1]
        rw [if_neg (by
          have := hr.1
          simp only [Bool.or_eq_true, decide_eq_true_eq, not_or]
          constructor
          · simp; omega
          · omega)]
        rw [← g1]
        congr 1
      · cases hb
    · cases hb
  | [], _ :: _, _, _, _, hp, _, _ => by cases hp
  | _ :: _, [], _, _, _, hp, _, _ => by cases hp

theorem does_build (h : HH S loc ow w N st.env vals st.box) {t : TypeId} {parts : Array (Nat × Value)} {pl : Nat → Option (Nat × Nat)} {z : Array Value} (hb : ∀ cells, Instr.fill pl z parts.toList = some cells → P.built t parts.toList = some cells)
    {zero : List C} (hz : ListRep S loc st.box ow w zero z) {vps : List (Nat × Nat × VX)} (hp : PartsRep S loc st ow w pl parts.toList vps) {cs : List C} (hc : buildParts st.env zero vps = some cs) (dst : Option Nat) {sem : Sem Next}
    (hs : sem = do pure (.value (← Instr.build t parts))) : Does P sem N st vals S loc ow w dst { val := .agg cs } := by
  subst hs
  obtain ⟨cells, h1, h2⟩ := fill_rep pl _ _ _ _ _ hp hz hc
  refine Does.val h (v := .agg cells) (by simp only [Sem.run_bind, run_build w t parts cells (hb _ h1), Result.andThen_ok]; rfl) dst _ (fun d => ?_)
  refine ⟨cells, rfl, h2.1, fun m c hm => ?_⟩
  obtain ⟨ho, u, hu, hr⟩ := h2.2 m c hm
  exact ⟨ho, u, hu, hr.place ho⟩

end
end Go.V

