/- The value machine, part 12: slices that are written out; stores. -/
import Derived.Test.YtglmbheeplndpaaV11
set_option linter.all false
set_option linter.unusedSimpArgs false
set_option linter.unusedVariables false
namespace Go.V
open Go

section
variable {P : Program} {S : Stab} {loc : Nat → Nat} {ow : Nat → Option Pl} {w : World} {N : Nat} {st : VSt} {vals : Nat → Value}

def ListRepD (S : Stab) (w : World) (xs : List D) (us : Array Value) : Prop :=
  us.size = xs.length ∧ ∀ (m : Nat) (x : D), xs[m]? = some x → ∃ u, us[m]? = some u ∧ RepD S w x u

theorem flatten_set {α : Type} (sz : Nat) : ∀ (es : List (List α)) (i : Nat) (ds : List α), (∀ e ∈ es, e.length = sz) → i < es.length → (es.set i ds).flatten = es.flatten.take (i * sz) ++ ds ++ es.flatten.drop (i * sz + sz)
  | [], i, ds, _, h => by simp at h
  | e :: es, 0, ds, hz, _ => by
    have := hz e (by simp)
    simp [this]
  | e :: es, i + 1, ds, hz, h => by
    have he := hz e (by simp)
    have ih := flatten_set sz es i ds (fun x hx => hz x (by simp [hx])) (by simpa using h)
    simp only [List.set_cons_succ, List.flatten_cons, ih]
    have e1 : (i + 1) * sz = sz + i * sz := by rw [Nat.add_mul]; omega
    have t1 : (e ++ es.flatten).take ((i + 1) * sz) = e ++ es.flatten.take (i * sz) := by
      rw [List.take_append, List.take_of_length_le (by omega), he]
      congr 2
      omega
    have t2 : (e ++ es.flatten).drop ((i + 1) * sz + sz) = es.flatten.drop (i * sz + sz) := by
      rw [List.drop_append, List.drop_of_length_le (by omega), he, List.nil_append]
      congr 1
      omega
    rw [t1, t2]
    simp

theorem ListRepD.splice {xs : List D} {us : Array Value} (h : ListRepD S w xs us) {off : Nat} {new : List D} {vs : List Value} (hl : vs.length = new.length) (hle : off + new.length ≤ xs.length)
    (hn : ∀ (m : Nat) (x : D), new[m]? = some x → ∃ u, vs[m]? = some u ∧ RepD S w x u) :
    ListRepD S w (xs.take off ++ new ++ xs.drop (off + new.length)) (us.toList.take off ++ vs ++ us.toList.drop (off + vs.length)).toArray := by
  refine ⟨?_, fun m c hc => ?_⟩
  · simp only [List.size_toArray, List.length_append, List.length_take, List.length_drop, Array.length_toList (xs := us), h.1, hl]
  · simp only [List.append_assoc, List.getElem?_append, List.length_take, List.getElem?_take, List.getElem?_drop] at hc
    have e1 : min off xs.length = off := by omega
    rw [e1] at hc
    simp only [List.getElem?_toArray, List.append_assoc, List.getElem?_append, List.length_take, List.getElem?_take, List.getElem?_drop, Array.length_toList (xs := us)]
    have e2 : min off us.size = off := by have := h.1; omega
    rw [e2, hl]
    split at hc
    · rename_i hm
      simp only [hm, if_true] at hc ⊢
      have := h.2 m c hc
      simpa using this
    · rename_i hm
      rw [if_neg hm]
      split at hc
      · rename_i hm2
        rw [if_pos hm2]
        exact hn _ c hc
      · rename_i hm2
        rw [if_neg hm2]
        have := h.2 _ c hc
        simpa using this

theorem toDs_get : ∀ {cs : List C} {ds : List D}, toDs cs = some ds → ds.length = cs.length ∧ ∀ (m : Nat) (x : D), ds[m]? = some x → ∃ c, cs[m]? = some c ∧ c.toD = some x
  | [], ds, h => by simp only [toDs, Option.some.injEq] at h; subst h; exact ⟨rfl, fun m x hx => by simp at hx⟩
  | c :: cs, ds, h => by
    simp only [toDs] at h
    split at h
    · rename_i x xs hx hxs
      cases h
      obtain ⟨h1, h2⟩ := toDs_get hxs
      refine ⟨by simp [h1], fun m y hy => ?_⟩
      cases m with
      | zero => cases hy; exact ⟨c, rfl, hx⟩
      | succ m => exact h2 m y (by simpa using hy)
    · cases h

def PartsRepS (S : Stab) (loc : Nat → Nat) (st : VSt) (ow : Nat → Option Pl) (w : World) : List (Nat × Value) → List (Nat × VX) → Prop
  | [], [] => True
  | (i, u) :: r, (j, x) :: r' => i = j ∧ (∃ d, RepV S loc st.box ow w d (x.get st.env) u) ∧ PartsRepS S loc st ow w r r'
  | _, _ => False

theorem fillS (sz : Nat) : ∀ (parts : List (Nat × Value)) (vps : List (Nat × VX)) (cells : Array Value) (es es' : List (List D)), PartsRepS S loc st ow w parts vps → (∀ e ∈ es, e.length = sz) → ListRepD S w es.flatten cells →
    sliceParts st.env sz es vps = some es' → ∃ cells', Instr.fill (fun i => some (i * sz, sz)) cells parts = some cells' ∧ ListRepD S w es'.flatten cells' ∧ (∀ e ∈ es', e.length = sz) ∧ es'.length = es.length
  | [], [], cells, es, es', _, hz, hr, hb => by
    simp only [sliceParts, Option.some.injEq] at hb
    subst hb
    exact ⟨cells, rfl, hr, hz, rfl⟩
  | (i, u) :: r, (i', x) :: r', cells, es, es', hp, hz, hr, hb => by
    obtain ⟨rfl, ⟨d, h2⟩, h3⟩ := hp
    simp only [sliceParts] at hb
    split at hb
    · rename_i ys hys
      split at hb
      · rename_i ds hds
        split at hb
        · rename_i hc
          obtain ⟨hc1, hc2⟩ := hc
          obtain ⟨d1, d2⟩ := toDs_get hds
          obtain ⟨c1, c2⟩ := h2.cellsRep hys
          have hfl := length_flatten_const sz es hz
          have hle : i * sz + sz ≤ es.length * sz := by
            have : (i + 1) * sz ≤ es.length * sz := Nat.mul_le_mul_right _ hc2
            rw [Nat.add_mul] at this
            omega
          have hf := foldl_set (i * sz) u.cells.toList 0 cells (by have := hr.1; simp; omega)
          have hsp := hr.splice (off := i * sz) (new := ds) (vs := u.cells.toList) (by simp; omega) (by omega) (fun m y hm => by
            obtain ⟨c, hc, hcy⟩ := d2 m y hm
            obtain ⟨v, hv, hrv⟩ := c2 m c hc
            exact ⟨v, by simpa using hv, hrv.toD hcy⟩)
          rw [hc1, ← flatten_set sz es i ds hz hc2] at hsp
          obtain ⟨cells', g1, g2, g3, g4⟩ := fillS sz r r' _ _ es' h3 (fun e he => by
            rcases List.mem_or_eq_of_mem_set he with h | h
            · exact hz e h
            · rw [h]; exact hc1) hsp hb
          refine ⟨cells', ?_, g2, g3, by simpa using g4⟩
          have hzz : u.cells.zipIdx.foldl (fun cs (p : Value × Nat) => cs.setIfInBounds (i * sz + p.2) p.1) cells = (cells.toList.take (i * sz) ++ u.cells.toList ++ cells.toList.drop (i * sz + u.cells.toList.length)).toArray := by
            rw [← Array.foldl_toList, Array.toList_zipIdx]
            simpa using hf
          simp only [Instr.fill]
          rw [if_neg (by
            have := hr.1
            simp only [Bool.or_eq_true, decide_eq_true_eq, not_or]
            constructor
            · simp; omega
            · omega)]
          rw [← g1]
          congr 1
        · cases hb
      · cases hb
    · cases hb
  | [], _ :: _, _, _, _, hp, _, _, _ => by cases hp
  | _ :: _, [], _, _, _, hp, _, _, _ => by cases hp

theorem flatten_replicate_get {α : Type} (sz : Nat) (z : List α) (hz : z.length = sz) (len m : Nat) (hm : m < len * sz) : (List.replicate len z).flatten[m]? = z[m % sz]? := by
  have hsz : 0 < sz := Nat.pos_of_ne_zero (fun h => by rw [h] at hm; simp at hm)
  have h1 := flatten_get sz (List.replicate len z) (fun x hx => by rw [List.eq_of_mem_replicate hx]; exact hz) (m / sz) (m % sz) (by rw [List.length_replicate]; exact Nat.div_lt_of_lt_mul (by rw [Nat.mul_comm]; exact hm)) (Nat.mod_lt _ hsz)
  rw [Nat.mul_comm, Nat.div_add_mod] at h1
  rw [h1]
  simp

theorem does_buildSlice (h : HH S loc ow w N st.env vals st.box) {t e sz bytes len : Nat} {z : Value} (ht : P.underlying t = some (.slice e)) (hi : elemInfo P e = some (sz, bytes, z)) {zero : List D} (hzl : z.cells.size = sz) (hzr : ListRepD S w zero z.cells) {parts : Array (Nat × Value)} {vps : List (Nat × VX)} (hp : PartsRepS S loc st ow w parts.toList vps)
    (hlim : len * sz ≤ 2 ^ 24) (hlen : len ≤ 140737488355328) {es : List (List D)} (he : sliceParts st.env sz (List.replicate len zero) vps = some es) (d : Nat) {sem : Sem Next} (hs : sem = do pure (.value (← Instr.buildSlice t len parts))) :
    Does P sem N st vals S loc ow w (some d) { val := .c (.osl e sz es) } := by
  subst hs
  obtain ⟨i, hi1, hi2, hi3, hi4⟩ := elemInfo_spec hi
  have hzlen : zero.length = sz := by rw [← hzr.1]; exact hzl
  -- the cells at the start
  have start : ∃ z0 : Array Value, (if len * sz = 0 then pure #[] else do pure (← zeroValue e).cells : Sem (Array Value)).run P w = .ok z0 w ∧ ListRepD S w (List.replicate len zero).flatten ((Array.range (len * sz)).map (z0[· % z0.size]!)) := by
    have hzv : (zeroValue e).run P w = .ok z w := by simp [zeroValue, typeInfo, hi1, hi2]
    have hfl : (List.replicate len zero).flatten.length = len * sz := by
      rw [length_flatten_const sz _ (fun x hx => by rw [List.eq_of_mem_replicate hx]; exact hzlen), List.length_replicate]
    by_cases h0 : len * sz = 0
    · refine ⟨#[], by rw [if_pos h0]; rfl, by rw [hfl]; simp, fun m x hx => ?_⟩
      have := (List.getElem?_eq_some_iff.1 hx).1
      omega
    · refine ⟨z.cells, by rw [if_neg h0]; simp only [Sem.run_bind, hzv, Result.andThen_ok]; rfl, by rw [hfl]; simp, fun m x hx => ?_⟩
      have hm := (List.getElem?_eq_some_iff.1 hx).1
      rw [hfl] at hm
      rw [flatten_replicate_get sz zero hzlen len m hm] at hx
      obtain ⟨u, hu, hr⟩ := hzr.2 _ x hx
      refine ⟨u, ?_, hr⟩
      have hr2 : (Array.range (len * sz))[m]? = some m := by simp [hm]
      rw [Array.getElem?_map, hr2]
      simp only [Option.map_some, Option.some.injEq]
      rw [hzl, getElem!_def, hu]
  obtain ⟨z0, hc1, hc2⟩ := start
  obtain ⟨cells', g1, g2, g3, g4⟩ := fillS sz _ _ _ _ es hp (fun x hx => by rw [List.eq_of_mem_replicate hx]; exact hzlen) hc2 he
  rw [List.length_replicate] at g4
  have hsize : (sizeOf e).run P w = .ok sz w := by simp [sizeOf, typeInfo, hi1, hi3]
  have hrun : (Instr.buildSlice t len parts).run P w = .ok (.slice (some ⟨w.heap.size, 0, none⟩) len len) (w.alloc (.cells cells' e)) := by
    have hno : ¬ (len * sz > 2 ^ 24) := by omega
    simp only [Instr.buildSlice]
    rw [Sem.run_bind, run_underlying ht, Result.andThen_ok]
    simp only
    rw [Sem.run_bind, hsize, Result.andThen_ok]
    simp only [if_neg hno]
    split
    · rename_i h0
      rw [if_pos h0] at hc1
      cases hc1
      simp only [g1, newRow, Sem.run_bind, run_newObj, Sem.run_pure, Result.andThen_ok]
      rfl
    · rename_i h0
      have hzv : (zeroValue e).run P w = .ok z w := by simp [zeroValue, typeInfo, hi1, hi2]
      rw [if_neg h0, Sem.run_bind, hzv, Result.andThen_ok, Sem.run_pure] at hc1
      cases hc1
      rw [Sem.run_bind, hzv, Result.andThen_ok]
      simp only [g1, newRow, Sem.run_bind, run_newObj, Sem.run_pure, Result.andThen_ok]
      rfl
  obtain ⟨S', ow', f1, f2, f3, f4, f5, f6⟩ := fresh_core (loc := loc) (e := e) h.sS h.so (xs := es) (sz := sz) (cap := len) (cells := cells') (W := w) (.inl rfl) g3 (by omega) (by simp only [maxLen]; omega) (by
      have := g2.1
      rw [length_flatten_const sz es g3, g4] at this
      exact this) (by omega) (fun j x hx => g2.2 j x hx) (.slot d 0) (.slot d 0) st.box
  rw [g4] at f1 f2
  exact does_own h (by simp only [Sem.run_bind, hrun, Result.andThen_ok]; rfl) (by rw [g4]; exact f1) f2 g3 f3 (p := .slot d 0) f4 f5 f6 (.inl ⟨rfl, rfl⟩)

end
end Go.V

