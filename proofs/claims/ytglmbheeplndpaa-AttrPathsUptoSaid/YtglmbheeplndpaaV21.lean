/- The value machine, part 21: whatever order the model draws. -/
import Derived.Test.YtglmbheeplndpaaV20
set_option linter.all false
set_option linter.unusedSimpArgs false
set_option linter.unusedVariables false
namespace Go.V
open Go

theorem mixL_all {D : Nat → Bool} : ∀ (is : List VI) (os : List Out) (k : Nat) (st : VSt), is.length = os.length → (∀ j, j < is.length → D (k + j) = true) → mixL D k (is.zip os) st = finalOf is os st
  | [], [], _, _, _, _ => rfl
  | i :: is, o :: os, k, st, hl, h => by
    have h0 := h 0 (by simp)
    simp only [Nat.add_zero] at h0
    simp only [List.zip_cons_cons, mixL, h0, if_true, finalOf]
    exact mixL_all is os (k + 1) _ (by simpa using hl) (fun j hj => by have := h (j + 1) (by simpa using hj); rwa [show k + (j + 1) = k + 1 + j by omega] at this)
  | [], _ :: _, _, _, hl, _ => by simp at hl
  | _ :: _, [], _, _, hl, _ => by simp at hl

theorem mixL_none {D : Nat → Bool} : ∀ (l : List (VI × Out)) (k : Nat) (st : VSt), (∀ j, D j = false) → mixL D k l st = st
  | [], _, _, _ => rfl
  | p :: r, k, st, h => by
    simp only [mixL, h k, Bool.false_eq_true, if_false]
    exact mixL_none r (k + 1) st h

theorem backEdges_spec : ∀ (l : List Oper) (k i : Nat) (o : Oper), backEdges k l = true → l[i]? = some o → ∀ j ∈ idsOf o, j < k + i
  | [], _, _, _, _, h => by simp at h
  | o' :: r, k, 0, o, hb, h => by
    cases h
    simp only [backEdges, Bool.and_eq_true, List.all_eq_true] at hb
    intro j hj
    simpa using hb.1 j hj
  | o' :: r, k, i + 1, o, hb, h => by
    simp only [backEdges, Bool.and_eq_true] at hb
    intro j hj
    have := backEdges_spec r (k + 1) i o hb.2 (by simpa using h) j hj
    omega

theorem instrs_len {P : Program} {N : Nat} {takes : List Nat} {ops : Array Oper} : ∀ {l : List Oper} {is : List VI}, Instrs P N takes ops l is → is.length = l.length
  | [], [], _ => rfl
  | o :: r, i :: is, h => by simp [instrs_len h.2]
  | [], _ :: _, h => by cases h
  | _ :: _, [], h => by cases h

theorem instrs_get {P : Program} {N : Nat} {takes : List Nat} {ops : Array Oper} : ∀ {l : List Oper} {is : List VI}, Instrs P N takes ops l is → ∀ (k : Nat) (o : Oper) (i : VI), l[k]? = some o → is[k]? = some i → cinstr P N takes ops o = some i
  | [], [], _, k, o, i, h, _ => by simp at h
  | o :: r, i :: is, h, 0, o', i', h1, h2 => by cases h1; cases h2; exact h.1
  | o :: r, i :: is, h, k + 1, o', i', h1, h2 => instrs_get h.2 k o' i' (by simpa using h1) (by simpa using h2)
  | [], _ :: _, h, _, _, _, _, _ => by cases h
  | _ :: _, [], h, _, _, _, _, _ => by cases h

section
variable {P : Program} {w0 : World} {S0 : Stab} {ow0 : Nat → Option Pl} {bx0 : Tab} {loc0 : Nat → Nat} {N : Nat} {rd : Option Nat} {nn : Nat}

theorem ids_listed {o : Oper} {listed : Array Bool} : (∀ j ∈ idsOf o, listed.getD j false = true) ↔ ∀ e ∈ o.after, Region.binds .any e = true → listed.getD e.on false = true := by
  unfold idsOf
  constructor
  · intro h e he hb
    refine h e.on ?_
    rw [List.mem_filterMap]
    exact ⟨e, by simpa using he, by simp [hb]⟩
  · intro h j hj
    rw [List.mem_filterMap] at hj
    obtain ⟨e, he, hj⟩ := hj
    split at hj
    · rename_i hb
      cases hj
      exact h e (by simpa using he) hb
    · cases hj

theorem any_sound {takes : List Nat} {ops : Array Oper} {is : List VI} {un : List (Nat × Nat)} (hd : cdraw ops.toList is = some un) (hi : Instrs P N takes ops ops.toList is) {st : VSt} {os : List Out} (hr : Runs P is st os)
    (hk : okKeys un (accs is os st) = true) {Q : Exit → Act → World → Prop} (hq : ∀ a' w', R w0 S0 ow0 bx0 loc0 N (finalOf is os st) a' w' → Q .normal a' w') :
    ∀ (fuel : Nat) (listed : Array Bool) (a : Act) (w : World), listed.size = ops.size → (∃ L : List Nat, L.length ≤ fuel ∧ ∀ i, i < ops.size → listed.getD i false = false → i ∈ L) →
      Closed ops.toList (fun i => listed.getD i false) → R w0 S0 ow0 bx0 loc0 N (mixL (fun i => listed.getD i false) 0 (is.zip os) st) a w → wpAnyIn (FW rd) nn P .any ops Q fuel listed a w := by
  have hbe : backEdges 0 ops.toList = true := by
    unfold cdraw at hd
    split at hd
    · assumption
    · cases hd
  have hlen : is.length = ops.size := by rw [instrs_len hi]; simp
  have hlo : is.length = os.length := runs_get is os st hr
  -- all listed
  have hall : ∀ (listed : Array Bool) (a : Act) (w : World), (∀ i, i < ops.size → listed.getD i false = true) → R w0 S0 ow0 bx0 loc0 N (mixL (fun i => listed.getD i false) 0 (is.zip os) st) a w → Q .normal a w := by
    intro listed a w ha hR
    rw [mixL_all is os 0 st hlo (fun j hj => by rw [Nat.zero_add]; exact ha j (by omega))] at hR
    exact hq a w hR
  -- nothing ready: all listed
  have hready : ∀ (listed : Array Bool), listed.size = ops.size → Region.ready .any ops listed = [] → ∀ i, i < ops.size → listed.getD i false = true := by
    intro listed hsz hnil i
    induction i using Nat.strongRecOn with
    | _ i ih =>
      intro hlt
      cases hl : listed.getD i false with
      | true => rfl
      | false =>
        exfalso
        have hmem : i ∈ Region.ready .any ops listed := by
          rw [mem_ready]
          refine ⟨?_, ops[i], Array.getElem?_eq_getElem hlt, ?_⟩
          · rw [Array.getD_eq_getD_getElem?, Array.getElem?_eq_getElem (by omega)] at hl ⊢
            exact hl
          · refine ids_listed.1 ?_
            intro j hj
            have := backEdges_spec ops.toList 0 i ops[i] hbe (by simp [Array.getElem?_eq_getElem hlt]) j hj
            exact ih j (by omega) (by omega)
        rw [hnil] at hmem
        cases hmem
  intro fuel
  induction fuel with
  | zero =>
    intro listed a w hsz ⟨L, hL, hin⟩ hcl hR
    have hal : ∀ i, i < ops.size → listed.getD i false = true := by
      intro i hlt
      cases hl : listed.getD i false with
      | true => rfl
      | false =>
        have := hin i hlt hl
        cases L with
        | nil => cases this
        | cons _ _ => simp at hL
    refine ⟨?_, hall listed a w hal hR⟩
    rw [List.eq_nil_iff_forall_not_mem]
    intro i hi'
    obtain ⟨h1, o, ho, _⟩ := mem_ready.1 hi'
    have hlt := (Array.getElem?_eq_some_iff.1 ho).1
    have h2 := hal i hlt
    rw [Array.getD_eq_getD_getElem?, Array.getElem?_eq_getElem (by omega)] at h1 h2
    simp only [Option.getD_some] at h1 h2
    rw [h1] at h2
    cases h2
  | succ fuel ih =>
    intro listed a w hsz ⟨L, hL, hin⟩ hcl hR
    refine ⟨fun hnil => hall listed a w (hready listed hsz hnil) hR, fun k hk' => ?_⟩
    obtain ⟨h1, o, ho, hedge⟩ := mem_ready.1 hk'
    have hlt := (Array.getElem?_eq_some_iff.1 ho).1
    have hDk : listed.getD k false = false := by
      rw [Array.getD_eq_getD_getElem?, Array.getElem?_eq_getElem (by omega)] at h1 ⊢
      exact h1
    have hkis : is[k]? = some (is[k]'(by omega)) := List.getElem?_eq_getElem (by omega)
    have hkos : os[k]? = some (os[k]'(by omega)) := List.getElem?_eq_getElem (by omega)
    have hq' : (is.zip os)[k]? = some (is[k]'(by omega), os[k]'(by omega)) := by rw [List.getElem?_zip_eq_some]; exact ⟨hkis, hkos⟩
    have hol : ops.toList[k]? = some o := by simpa using ho
    have hids := ids_listed.2 hedge
    have hmay : May (is.zip os) st (fun i => listed.getD i false) k := by
      refine ⟨hDk, fun j p q hp hq hjk => ?_⟩
      have hjlt : j < is.length := by
        have := (List.getElem?_eq_some_iff.1 hp).1
        simp only [List.length_zip] at this
        omega
      rcases Nat.lt_or_gt_of_ne hjk with hj | hj
      · rcases draw_noConf hd hr hk hj hp hq with hanc | hn
        · left
          simp only [hj, decide_true]
          exact anc_spec hcl k o hol hids j hanc
        · exact .inr (.inl ⟨hj, hn⟩)
      · rcases draw_noConf hd hr hk hj hq hp with hanc | hn
        · left
          have : ¬ j < k := by omega
          simp only [this, decide_false]
          cases hl : listed.getD j false with
          | false => rfl
          | true =>
            exfalso
            have hjo : ops.toList[j]? = some (ops[j]'(by omega)) := by simp [Array.getElem?_eq_getElem (show j < ops.size by omega)]
            have := anc_spec hcl j _ hjo (hcl j _ hjo hl) k hanc
            rw [hDk] at this
            cases this
        · exact .inr (.inr ⟨hj, hn⟩)
    have heff := may_eff hq' hmay (runs_eff is os st hr k _ hq')
    refine instr_sound ho (instrs_get hi k o _ hol hkis) hR heff (fun a' w' hR' => ?_)
    have hset : ∀ j, (listed.setIfInBounds k true).getD j false = if j = k then true else listed.getD j false := by
      intro j
      by_cases hj : j = k
      · subst hj
        rw [if_pos rfl, Array.getD_eq_getD_getElem?, Array.getElem?_setIfInBounds_self_of_lt (by omega)]
        rfl
      · rw [if_neg hj]
        exact getD_set_ne false (Ne.symm hj)
    rw [← may_step hq' hmay (D' := fun j => (listed.setIfInBounds k true).getD j false) hset] at hR'
    refine ih _ a' w' (by simpa using hsz) ⟨L.erase k, ?_, fun i hil hi0 => ?_⟩ ?_ hR'
    · have hkL := hin k hlt hDk
      rw [List.length_erase_of_mem hkL]
      omega
    · rw [hset] at hi0
      split at hi0
      · cases hi0
      · rename_i hne
        exact (List.mem_erase_of_ne hne).2 (hin i hil hi0)
    · intro i oi hoi hLi j hj
      simp only [hset] at hLi ⊢
      split
      · rfl
      · split at hLi
        · rename_i hik
          subst hik
          rw [hol] at hoi
          cases hoi
          exact hids j hj
        · exact hcl i oi hoi hLi j hj

theorem region_draw_sound (hm : P.follows .mixedOrders = true) {takes : List Nat} {id : Nat} {ops : Array Oper} {is : List VI} {un : List (Nat × Nat)} (hc : cinstrs P N takes ops ops.toList = some is) (hd : cdraw ops.toList is = some un) {st : VSt} {os : List Out}
    (hr : Runs P is st os) (hk : okKeys un (accs is os st) = true) {a : Act} {w : World} (hR : R w0 S0 ow0 bx0 loc0 N st a w) {Q : Exit → Act → World → Prop}
    (hq : ∀ a' w', R w0 S0 ow0 bx0 loc0 N (finalOf is os st) a' w' → Q .normal a' w') : (Code.region id ops true).wpIn (FW rd) nn P Q a w := by
  refine wpIn_region_any hm ?_
  have hno : ∀ j, (Array.replicate ops.size false).getD j false = false := by
    intro j
    rw [Array.getD_eq_getD_getElem?]
    by_cases hj : j < ops.size
    · simp [hj]
    · simp [hj]
  refine any_sound hd (cinstrs_spec hc) hr hk hq ops.size _ a _ (by simp) ⟨List.range ops.size, by simp, fun i hi _ => List.mem_range.2 hi⟩ ?_ ?_
  · intro i o _ hi
    simp only [hno] at hi
    cases hi
  · rw [mixL_none _ _ _ hno]
    exact hR.drew

end
end Go.V

