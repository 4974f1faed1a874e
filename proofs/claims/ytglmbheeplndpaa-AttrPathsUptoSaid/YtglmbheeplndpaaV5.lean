/- The value machine, part 5: the instructions that turn no memory. -/
import Derived.Test.YtglmbheeplndpaaV4
set_option linter.all false
set_option linter.unusedSimpArgs false
set_option linter.unusedVariables false
namespace Go.V
open Go

/-- Of a type: is it an aggregate; how many cells. -/
def tyInfo (P : Program) (t : TypeId) : Option (Bool × Nat) :=
  match P.underlying t, P.info? t with
  | some d, some i => some ((match d with | .struct _ | .array _ _ => true | _ => false), i.size)
  | _, _ => none

/-- What one operation comes to: the run ends in a world in which all stands for what the step says. -/
def Does (P : Program) (s : Sem Next) (N : Nat) (st : VSt) (vals : Nat → Value) (S : Stab) (loc : Nat → Nat) (ow : Nat → Option Pl) (w : World) (dst : Option Nat) (out : Out) : Prop :=
  ∃ v w' S' loc' ow', (s.run P w = .ok (.value v) w' ∨ (s.run P w = .ok .skip w' ∧ v = undef)) ∧ Kept w S ow w' S' ow' ∧
    (∀ k, (st.box k).1 ≤ ((st.app dst out).box k).1 ∧ (((st.app dst out).box k).1 = (st.box k).1 → loc' k = loc k)) ∧
    ∀ vals' : Nat → Value, (∀ i, i < N → vals' i = if dst = some i then v else vals i) → HH S' loc' ow' w' N (st.app dst out).env vals' (st.app dst out).box

section
variable {P : Program} {S : Stab} {loc : Nat → Nat} {ow : Nat → Option Pl} {w : World} {N : Nat} {st : VSt} {vals : Nat → Value}

theorem Does.val (h : HH S loc ow w N st.env vals st.box) {s : Sem Next} {v : Value} (hrun : s.run P w = .ok (.value v) w) (dst : Option Nat) (x : SV)
    (hr : ∀ d, RepV S loc st.box ow w d x v) : Does P s N st vals S loc ow w dst { val := x } :=
  ⟨v, w, S, loc, ow, .inl hrun, Kept.refl w S ow, fun _ => ⟨Nat.le_refl _, fun _ => rfl⟩, fun vals' hv => h.put dst x v (fun d _ => hr d) vals' hv⟩

theorem run_tyInfo {t : TypeId} {agg : Bool} {n : Nat} (ht : tyInfo P t = some (agg, n)) (w : World) : (isAgg t).run P w = .ok agg w ∧ (sizeOf t).run P w = .ok n w := by
  unfold tyInfo at ht
  split at ht
  · rename_i d i hd hi
    simp only [Option.some.injEq, Prod.mk.injEq] at ht
    obtain ⟨h1, h2⟩ := ht
    constructor
    · simp only [isAgg, Sem.run_bind, run_underlying hd, Result.andThen_ok]
      cases d <;> simp_all
    · simp [sizeOf, typeInfo, hi, h2]
  · cases ht

theorem run_loadVar {t : TypeId} {agg : Bool} {n : Nat} (ht : tyInfo P t = some (agg, n)) (hn : agg = false → n = 1) {g o : Nat} (us : List Value) (hl : us.length = n)
    (hc : ∀ j u, us[j]? = some u → w.cell? ⟨g, o + j, none⟩ = some u) : (loadVar t ⟨g, o, none⟩).run P w = .ok (if agg then .agg us.toArray else us.headD undef) w := by
  obtain ⟨h1, h2⟩ := run_tyInfo ht w
  cases agg with
  | true =>
    have := run_loadCells_list (P := P) w ⟨g, o, none⟩ us (fun j u hu => by rw [add_none]; exact hc j u hu)
    simp only [loadVar, Sem.run_bind, h1, h2, Result.andThen_ok, if_true]
    rw [← hl, this]
    rfl
  | false =>
    have hn := hn rfl
    subst hn
    match us, hl with
    | [u], _ =>
      have := hc 0 u rfl
      simp only [Nat.add_zero] at this
      simp only [loadVar, Sem.run_bind, h1, Result.andThen_ok, Bool.false_eq_true, if_false, run_load, this, List.headD_cons]

theorem part_rep {agg : Bool} {n : Nat} {cs : List C} {x : SV} (hp : part agg n cs = some x) (us : List Value) (hl : us.length = cs.length)
    (hr : ∀ (j : Nat) (c : C), cs[j]? = some c → ∃ u p, us[j]? = some u ∧ RepC S loc st.box ow w p c u) (d : Nat) : RepV S loc st.box ow w d x (if agg then .agg us.toArray else us.headD undef) := by
  unfold part at hp
  split at hp
  · rename_i ha
    cases hp
    subst ha
    refine ⟨us.toArray, rfl, by simp [hl], fun m c hc => ?_⟩
    rw [List.getElem?_map] at hc
    obtain ⟨c0, h0, rfl⟩ := Option.map_eq_some_iff.1 hc
    obtain ⟨u, p, hu, hru⟩ := hr m c0 h0
    exact ⟨isOsl_copy c0, u, by simpa using hu, hru.copy _⟩
  · rename_i ha
    split at hp
    · rename_i c
      split at hp
      · cases hp
        obtain ⟨u, p, hu, hru⟩ := hr 0 c rfl
        match us, hl with
        | [u'], _ =>
          simp only [List.getElem?_cons_zero, Option.some.injEq] at hu
          subst hu
          simp only [ha, Bool.false_eq_true, if_false, List.headD_cons]
          exact RepC.copy (.slot d 0) hru
      · cases hp
    · cases hp

theorem part_one {n : Nat} {cs : List C} {x : SV} (hp : part false n cs = some x) : n = 1 ∧ cs.length = 1 := by
  unfold part at hp
  simp only [Bool.false_eq_true, if_false] at hp
  split at hp
  · split at hp
    · exact ⟨‹_›, rfl⟩
    · cases hp
  · cases hp

theorem RepV.ptr {i : Nat} {x : SV} {v : Value} {k off : Nat} (h : RepV S loc st.box ow w i x v) (hp : place st.box x = some (.box k off)) : v = .pointer (some ⟨loc k, off, none⟩) := by
  unfold place at hp
  split at hp
  · rename_i k' ver off'
    split at hp
    · cases hp
      obtain ⟨a, r1, r2, r3⟩ := h.cinv
      rw [r1, r3 ‹_›]
    · cases hp
  · cases hp
  · cases hp

theorem RepV.row {i : Nat} {x : SV} {v : Value} {xs : List D} (h : RepV S loc st.box ow w i x v) (hp : place st.box x = some (.row xs)) : ∃ g o, v = .pointer (some ⟨g, o, none⟩) ∧ RowD S w g o xs := by
  unfold place at hp
  split at hp
  · split at hp <;> cases hp
  · cases hp
    exact h.cinv
  · cases hp

/-- A list of cells that stand for data. -/
theorem row_vals {S : Stab} {w : World} {g o : Nat} {xs : List D} (h : RowD S w g o xs) : ∃ us : List Value, us.length = xs.length ∧ (∀ (j : Nat) u, us[j]? = some u → w.cell? ⟨g, o + j, none⟩ = some u) ∧ ∀ (j : Nat) x, xs[j]? = some x → ∃ u, us[j]? = some u ∧ RepD S w x u := by
  refine ⟨(List.range xs.length).map fun j => (w.cell? ⟨g, o + j, none⟩).getD default, by simp, fun j u hu => ?_, fun j x hx => ?_⟩
  · have hj : j < xs.length := by
      have := (List.getElem?_eq_some_iff.1 hu).1
      simpa using this
    rw [List.getElem?_map, List.getElem?_range hj] at hu
    simp only [Option.map_some, Option.some.injEq] at hu
    subst hu
    obtain ⟨_, u, hu, _⟩ := h j _ (List.getElem?_eq_getElem hj)
    simp [hu]
  · obtain ⟨_, u, hu, hd⟩ := h j x hx
    have hj := (List.getElem?_eq_some_iff.1 hx).1
    exact ⟨u, by simp [List.getElem?_map, List.getElem?_range hj, hu], hd⟩

/-- load, from cells that do not change -/
theorem does_load_row (h : HH S loc ow w N st.env vals st.box) {i : Nat} {p : SV} {v : Value} (hv : RepV S loc st.box ow w i p v) {xs : List D} (hp : place st.box p = some (.row xs)) {t : TypeId} {agg : Bool} {n : Nat}
    (ht : tyInfo P t = some (agg, n)) (hle : n ≤ xs.length) {x : SV} (hx : part agg n ((xs.take n).map .d) = some x) (dst : Option Nat) {s : Sem Next} (hs : s = do pure (.value (← Instr.loadAt t v))) : Does P s N st vals S loc ow w dst { val := x } := by
  obtain ⟨g, o, rfl, hrow⟩ := hv.row hp
  obtain ⟨us, hl, hc, hr⟩ := row_vals (RowD.take hrow n)
  have hlen : us.length = n := by rw [hl, List.length_take]; omega
  have hn : agg = false → n = 1 := by rintro rfl; exact (part_one hx).1
  refine Does.val h (v := if agg then .agg us.toArray else us.headD undef) ?_ dst x (part_rep hx us (by simp [hl]) (fun j c hc' => ?_))
  · subst hs
    have := run_loadVar ht hn us hlen hc
    simp only [Instr.loadAt, Instr.sureAddr, Sem.run_bind, Sem.run_pure, Result.andThen_ok, this]
  · rw [List.getElem?_map] at hc'
    obtain ⟨y, hy, rfl⟩ := Option.map_eq_some_iff.1 hc'
    obtain ⟨u, hu, hd⟩ := hr j y hy
    exact ⟨u, .slot 0 0, hu, hd⟩

/-- load, from a box, as a copy -/
theorem does_load_box (h : HH S loc ow w N st.env vals st.box) {i : Nat} {p : SV} {v : Value} (hv : RepV S loc st.box ow w i p v) {k off : Nat} (hp : place st.box p = some (.box k off)) {cs : List C} (hk : (st.box k).2 = some cs) {t : TypeId} {agg : Bool} {n : Nat}
    (ht : tyInfo P t = some (agg, n)) (hle : off + n ≤ cs.length) {x : SV} (hx : part agg n ((cs.drop off).take n) = some x) (dst : Option Nat) {s : Sem Next} (hs : s = do pure (.value (← Instr.loadAt t v))) : Does P s N st vals S loc ow w dst { val := x } := by
  rw [hv.ptr hp] at hs
  obtain ⟨ty, vs, _, hh, _, hsz, hr⟩ := h.boxAt hk
  have hlen : ((vs.toList.drop off).take n).length = n := by simp; omega
  have hn : agg = false → n = 1 := by rintro rfl; exact (part_one hx).1
  refine Does.val h (v := if agg then .agg ((vs.toList.drop off).take n).toArray else ((vs.toList.drop off).take n).headD undef) ?_ dst x (part_rep hx _ (by simp; omega) (fun j c hc' => ?_))
  · subst hs
    have := run_loadVar (P := P) (w := w) (g := loc k) (o := off) ht hn ((vs.toList.drop off).take n) hlen (fun j u hu => by
      rw [cell_of_row w (loc k) (off + j) vs ty (0, 0) hh]
      rw [List.getElem?_take, List.getElem?_drop] at hu
      split at hu
      · simpa using hu
      · cases hu)
    simp only [Instr.loadAt, Instr.sureAddr, Sem.run_bind, Sem.run_pure, Result.andThen_ok, this]
  · rw [List.getElem?_take, List.getElem?_drop] at hc'
    split at hc'
    · obtain ⟨u, hu, hd⟩ := hr _ c hc'
      refine ⟨u, _, ?_, hd⟩
      rw [List.getElem?_take, if_pos ‹_›, List.getElem?_drop]
      simpa using hu
    · cases hc'

end
end Go.V

