/- The value machine: '==' of structs of numbers, bools and texts. -/
import Derived.Test.YtglmbheeplndpaaV14
import Derived.Laws.StructEq
set_option linter.all false
set_option linter.unusedSimpArgs false
set_option linter.unusedVariables false
namespace Go.V
open Go

theorem vcellsEq_append : ∀ {as bs cs ds : List C} {b : Bool}, as.length = bs.length → vcellsEq (as ++ cs) (bs ++ ds) = some b → ∃ b1 b2, vcellsEq as bs = some b1 ∧ vcellsEq cs ds = some b2 ∧ b = (b1 && b2)
  | [], [], cs, ds, b, _, h => ⟨true, b, rfl, by simpa using h, by simp⟩
  | x :: as, y :: bs, cs, ds, b, hl, h => by
    cases x with
    | d x =>
      cases y with
      | d y =>
        simp only [List.cons_append, vcellsEq] at h
        split at h
        · rename_i a b' h1 h2
          cases h
          obtain ⟨b1, b2, e1, e2, rfl⟩ := vcellsEq_append (by simpa using hl) h2
          refine ⟨a && b1, b2, ?_, e2, by simp [Bool.and_assoc]⟩
          simp only [vcellsEq, h1, e1]
        · cases h
      | _ => simp [vcellsEq] at h
    | _ => simp [vcellsEq] at h
  | [], _ :: _, _, _, _, hl, _ => by simp at hl
  | _ :: _, [], _, _, _, hl, _ => by simp at hl

theorem vcellsEq_len : ∀ {as bs : List C} {b : Bool}, vcellsEq as bs = some b → as.length = bs.length
  | [], [], _, _ => rfl
  | x :: as, y :: bs, b, h => by
    cases x with
    | d x =>
      cases y with
      | d y =>
        simp only [vcellsEq] at h
        split at h
        · rename_i h2
          simp [vcellsEq_len h2]
        · cases h
      | _ => simp [vcellsEq] at h
    | _ => simp [vcellsEq] at h
  | [], _ :: _, _, h => by simp [vcellsEq] at h
  | _ :: _, [], _, h => by simp [vcellsEq] at h

/-- Cells and what stands for them. -/
def CellsRep (S : Stab) (w : World) (cs : List C) (us : Array Value) : Prop :=
  us.size = cs.length ∧ ∀ (j : Nat) (x : D), cs[j]? = some (.d x) → ∃ u, us[j]? = some u ∧ RepD S w x u

section
variable {P : Program} {S : Stab} {w : World}

theorem run_part {t : TypeId} {agg : Bool} {n : Nat} (ht : tyInfo P t = some (agg, n)) (us : Array Value) (off : Nat) (hn : off + n ≤ us.size) (h1 : agg = false → n = 1) :
    (Go.part t us off).run P w = .ok (if agg then .agg (us.extract off (off + n)) else us.getD off undef) w := by
  obtain ⟨r1, r2⟩ := run_tyInfo ht w
  cases agg with
  | true =>
    simp only [Go.part, Sem.run_bind, r1, r2, Result.andThen_ok, if_true]
    rfl
  | false =>
    have : off < us.size := by have := h1 rfl; omega
    simp only [Go.part, Sem.run_bind, r1, Result.andThen_ok, Bool.false_eq_true, if_false, Array.getElem?_eq_getElem this, Array.getD_eq_getD_getElem?, Option.getD_some]
    rfl

theorem vcellsEq_one {as bs : List C} {b : Bool} (h : vcellsEq as bs = some b) (hl : as.length = 1) : ∃ x y, as = [.d x] ∧ bs = [.d y] ∧ vatomEq x y = some b := by
  match as, hl with
  | [a], _ =>
    match bs, vcellsEq_len h with
    | [b'], _ =>
      cases a with
      | d x =>
        cases b' with
        | d y =>
          simp only [vcellsEq] at h
          split at h
          · rename_i h1 h2
            cases h2
            cases h
            exact ⟨x, y, rfl, rfl, by simpa using h1⟩
          · cases h
        | _ => simp [vcellsEq] at h
      | _ => simp [vcellsEq] at h

theorem CellsRep.part {cs : List C} {us : Array Value} (h : CellsRep S w cs us) (off n : Nat) (hn : off + n ≤ cs.length) : CellsRep S w ((cs.drop off).take n) (us.extract off (off + n)) := by
  have hs := h.1
  refine ⟨by simp; omega, fun j x hx => ?_⟩
  rw [List.getElem?_take] at hx
  split at hx
  · rename_i hj
    rw [List.getElem?_drop] at hx
    obtain ⟨u, hu, hr⟩ := h.2 _ x hx
    refine ⟨u, ?_, hr⟩
    rw [Array.getElem?_extract, if_pos (by omega)]
    exact hu
  · cases hx

theorem equal_fields {f : TypeId → Option (List Nat)} {d' : Nat}
    (ih : ∀ t ks, f t = some ks → ∀ (cs ds : List C) (b : Bool) (us vs : Array Value), cs.map kindC = ks → vcellsEq cs ds = some b → CellsRep S w cs us → CellsRep S w ds vs →
      ∃ agg, tyInfo P t = some (agg, ks.length) ∧ (agg = false → ks.length = 1) ∧ (Op.equalIn d' t (if agg then .agg us else us.getD 0 undef) (if agg then .agg vs else vs.getD 0 undef)).run P w = .ok b w)
    {cs ds : List C} {us vs : Array Value} (hu : CellsRep S w cs us) (hv : CellsRep S w ds vs) (hl : cs.length = ds.length) :
    ∀ (l : List Field) (off : Nat) (ks : List Nat), layF f off l = some ks → (cs.drop off).map kindC = ks → off ≤ cs.length → ∀ b, vcellsEq (cs.drop off) (ds.drop off) = some b → (Op.eqFields d' us vs l).run P w = .ok b w
  | [], off, ks, h, hk, ho, b, hb => by
    cases h
    have h1 : cs.drop off = [] := by simpa using hk
    rw [h1] at hb
    have h2 : ds.drop off = [] := by
      have := vcellsEq_len hb
      exact List.length_eq_zero_iff.1 this.symm
    rw [h2] at hb
    cases hb
    rfl
  | x :: r, off, ks, h, hk, ho, b, hb => by
    simp only [layF] at h
    split at h
    · cases h
    · rename_i hno
      split at h
      · rename_i k1 hk1
        obtain ⟨k2, hk2, rfl⟩ := Option.map_eq_some_iff.1 h
        have hno1 : x.name ≠ "_" := fun e => hno (.inl e)
        have hno2 : x.offset = off := Decidable.byContradiction fun e => hno (.inr e)
        have hlen : (cs.drop off).length = k1.length + k2.length := by
          have := congrArg List.length hk
          simpa using this
        have hcl : off + k1.length + k2.length = cs.length := by
          rw [List.length_drop] at hlen
          omega
        have ec : cs.drop off = (cs.drop off).take k1.length ++ cs.drop (off + k1.length) := by
          rw [← List.drop_drop, List.take_append_drop]
        have ed : ds.drop off = (ds.drop off).take k1.length ++ ds.drop (off + k1.length) := by
          rw [← List.drop_drop, List.take_append_drop]
        rw [ec, ed] at hb
        obtain ⟨b1, b2, e1, e2, rfl⟩ := vcellsEq_append (by simp; omega) hb
        have hkk : ((cs.drop off).take k1.length).map kindC = k1 ∧ (cs.drop (off + k1.length)).map kindC = k2 := by
          rw [ec, List.map_append] at hk
          exact List.append_inj hk (by simp; omega)
        obtain ⟨agg, t1, t2, t3⟩ := ih x.type k1 hk1 _ _ b1 _ _ hkk.1 e1 (hu.part off k1.length (by omega)) (hv.part off k1.length (by omega))
        have hus := hu.1
        have hvs := hv.1
        have p1 := run_part (w := w) t1 us off (by omega) t2
        have p2 := run_part (w := w) t1 vs off (by omega) t2
        have hsame : ∀ us : Array Value, off + k1.length ≤ us.size → (if agg = true then Value.agg (us.extract off (off + k1.length)) else us.getD off undef) = (if agg = true then Value.agg (us.extract off (off + k1.length)) else (us.extract off (off + k1.length)).getD 0 undef) := by
          intro us hus
          cases agg with
          | true => rfl
          | false =>
            have h1 := t2 rfl
            simp only [Bool.false_eq_true, if_false, Array.getD_eq_getD_getElem?]
            rw [Array.getElem?_extract, if_pos (by omega)]
            rfl
        rw [hsame us (by omega)] at p1
        rw [hsame vs (by omega)] at p2
        simp only [Op.eqFields, hno1, ne_eq, not_false_eq_true, if_true, hno2, Sem.run_bind, p1, p2, Result.andThen_ok, t3]
        cases b1 with
        | false => rfl
        | true =>
          simp only [Bool.not_true, Bool.false_eq_true, if_false, Bool.true_and]
          exact equal_fields ih hu hv hl r (off + k1.length) k2 hk2 hkk.2 (by omega) b2 e2
      · cases h

theorem equal_rep : ∀ (d : Nat) (t : TypeId) (ks : List Nat), layT P d t = some ks → ∀ (d' : Nat), d ≤ d' → ∀ (cs ds : List C) (b : Bool) (us vs : Array Value), cs.map kindC = ks → vcellsEq cs ds = some b → CellsRep S w cs us → CellsRep S w ds vs →
    ∃ agg, tyInfo P t = some (agg, ks.length) ∧ (agg = false → ks.length = 1) ∧ (Op.equalIn d' t (if agg then .agg us else us.getD 0 undef) (if agg then .agg vs else vs.getD 0 undef)).run P w = .ok b w
  | 0, t, n, h => by cases h
  | d + 1, t, ks, h => by
    intro d' hd cs ds b us vs hl he hu hv
    obtain ⟨d', rfl⟩ : ∃ k, d' = k + 1 := ⟨d' - 1, by omega⟩
    simp only [layT] at h
    have atom : ∀ k, ks = [k] → tyInfo P t = some (false, 1) → (∀ x y : D, kindC (.d x) = k → vatomEq x y = some b → ∀ u v, RepD S w x u → RepD S w y v → (Op.equalIn (d' + 1) t u v).run P w = .ok b w) →
        ∃ agg, tyInfo P t = some (agg, ks.length) ∧ (agg = false → ks.length = 1) ∧ (Op.equalIn (d' + 1) t (if agg then .agg us else us.getD 0 undef) (if agg then .agg vs else vs.getD 0 undef)).run P w = .ok b w := by
      intro k hks ht hk
      subst hks
      have hlen := congrArg List.length hl
      obtain ⟨x, y, rfl, rfl, hxy⟩ := vcellsEq_one he (by simpa using hlen)
      obtain ⟨u, hu1, hu2⟩ := hu.2 0 x rfl
      obtain ⟨v, hv1, hv2⟩ := hv.2 0 y rfl
      refine ⟨false, ht, fun _ => rfl, ?_⟩
      simp only [Bool.false_eq_true, if_false, Array.getD_eq_getD_getElem?, hu1, hv1, Option.getD_some]
      exact hk x y (by simpa using hl) hxy u v hu2 hv2
    have kinds : ∀ (x y : D), vatomEq x y = some b → (∃ k k' p q, x = .v (.int k p) ∧ y = .v (.int k' q) ∧ k = k' ∧ b = (p == q)) ∨ (∃ p q, x = .v (.bool p) ∧ y = .v (.bool q) ∧ b = (p == q)) ∨ ∃ p q, x = .v (.string p) ∧ y = .v (.string q) ∧ b = (p == q) := by
      intro x y hxy
      unfold vatomEq at hxy
      split at hxy
      · split at hxy
        · rename_i hk
          cases hxy
          exact .inl ⟨_, _, _, _, rfl, rfl, hk, rfl⟩
        · cases hxy
      · cases hxy; exact .inr (.inl ⟨_, _, rfl, rfl, rfl⟩)
      · cases hxy; exact .inr (.inr ⟨_, _, rfl, rfl, rfl⟩)
      · cases hxy
    split at h
    · rename_i ht
      split at h
      · rename_i hi
        cases h
        refine atom 0 rfl hi (fun x y hk hxy u v hu hv => ?_)
        rcases kinds x y hxy with ⟨k, k', p, q, rfl, rfl, _, _⟩ | ⟨p, q, rfl, rfl, rfl⟩ | ⟨p, q, rfl, rfl, _⟩
        · simp [kindC] at hk
        · rw [hu.v_inv, hv.v_inv]
          simp [Op.equalIn, run_underlying ht]
        · simp [kindC] at hk
      · cases h
    · rename_i ht
      split at h
      · rename_i hi
        cases h
        refine atom 1 rfl hi (fun x y hk hxy u v hu hv => ?_)
        rcases kinds x y hxy with ⟨k, k', p, q, rfl, rfl, rfl, rfl⟩ | ⟨p, q, rfl, rfl, _⟩ | ⟨p, q, rfl, rfl, _⟩
        · rw [hu.v_inv, hv.v_inv]
          simp [Op.equalIn, run_underlying ht]
        · simp [kindC] at hk
        · simp [kindC] at hk
      · cases h
    · rename_i ht
      split at h
      · rename_i hi
        cases h
        refine atom 2 rfl hi (fun x y hk hxy u v hu hv => ?_)
        rcases kinds x y hxy with ⟨k, k', p, q, rfl, rfl, _, _⟩ | ⟨p, q, rfl, rfl, _⟩ | ⟨p, q, rfl, rfl, rfl⟩
        · simp [kindC] at hk
        · simp [kindC] at hk
        · rw [hu.v_inv, hv.v_inv]
          simp [Op.equalIn, run_underlying ht]
      · cases h
    · rename_i fs ht
      split at h
      · cases h
      · rename_i hst
        split at h
        · rename_i ks' hlay
          split at h
          · rename_i hi
            cases h
            have hf : P.fieldsOf t = fs := by simp [Program.fieldsOf, ht]
            refine ⟨true, hi, (fun e => nomatch e), ?_⟩
            simp only [if_true]
            rw [run_equalIn_struct w d' t us vs (by rw [hf]; exact ht) (by simpa using hst), hf]
            refine equal_fields (f := layT P d) (fun t' ks' h' cs ds b us vs a1 a2 a3 a4 => equal_rep d t' ks' h' d' (by omega) cs ds b us vs a1 a2 a3 a4) hu hv (vcellsEq_len he) fs.toList 0 _ hlay (by simpa using hl) (Nat.zero_le _) b (by simpa using he)
          · cases h
        · cases h
    · cases h

theorem RepV.aggCells {loc : Nat → Nat} {box : Tab} {ow : Nat → Option Pl} {i : Nat} {xs : List C} {v : Value} (h : RepV S loc box ow w i (.agg xs) v) : ∃ us, v = .agg us ∧ CellsRep S w xs us := by
  obtain ⟨vs, rfl, hs, hm⟩ := (show RepV1 S loc box ow w i 0 (.agg xs) v from h)
  refine ⟨vs, rfl, hs, fun j x hx => ?_⟩
  obtain ⟨_, u, hu, hr⟩ := hm j _ hx
  exact ⟨u, hu, hr⟩

theorem run_eqAgg {t : TypeId} {ks : List Nat} (hl : layT P 8 t = some ks) (hg : P.eqGuardType P.depth t = false) {xs ys : List C} (hk : xs.map kindC = ks) {b : Bool} (hb : vcellsEq xs ys = some b) {us vs : Array Value} (hu : CellsRep S w xs us) (hv : CellsRep S w ys vs)
    (hst : ∃ fs, P.underlying t = some (.struct fs)) (neg : Bool) (x y : Operand) :
    (do eqGuard (if neg then .neq else .eql) t x y (.agg us) (.agg vs); binOp (if neg then .neq else .eql) t (.agg us) (.agg vs) : Sem Value).run P w = .ok (.bool (if neg then !b else b)) w := by
  obtain ⟨agg, h1, _, h3⟩ := equal_rep 8 t ks hl 10000 (by omega) xs ys b us vs hk hb hu hv
  have ha : agg = true := by
    obtain ⟨fs, hfs⟩ := hst
    unfold tyInfo at h1
    rw [hfs] at h1
    split at h1
    · rename_i h _
      cases h
      simp only [Option.some.injEq, Prod.mk.injEq] at h1
      exact h1.1.symm
    · cases h1
  subst ha
  simp only [if_true] at h3
  rw [Sem.run_bind, run_eqGuard_agg w _ t x y us vs hg, Result.andThen_ok]
  cases neg with
  | true =>
    simp only [if_true]
    rw [run_neq_struct, h3]
    rfl
  | false =>
    simp only [Bool.false_eq_true, if_false]
    rw [run_eql_struct, h3]
    rfl

end
end Go.V

