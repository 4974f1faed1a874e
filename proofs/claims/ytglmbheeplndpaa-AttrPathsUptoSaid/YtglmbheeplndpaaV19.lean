/- The value machine, part 19: a region whose order is drawn. -/
import Derived.Test.YtglmbheeplndpaaV18
set_option linter.all false
set_option linter.unusedSimpArgs false
set_option linter.unusedVariables false
namespace Go.V
open Go

def wslots (p : VI × Out) : List Nat := p.1.dst.toList ++ p.2.slots.map (·.1)
def bkeys (p : VI × Out) : List Nat := p.2.boxes.map (·.1)

theorem updAll_in {α : Type} : ∀ (l : List (Nat × α)) (f g : Nat → α) (k : Nat), k ∈ l.map (·.1) → updAll f l k = updAll g l k
  | [], _, _, _, h => by simp at h
  | (k0, x) :: r, f, g, k, h => by
    simp only [updAll]
    by_cases hr : k ∈ r.map (·.1)
    · exact updAll_in r _ _ k hr
    · have hk : k = k0 := by
        simp only [List.map_cons, List.mem_cons] at h
        exact h.resolve_right hr
      subst hk
      have out : ∀ (l : List (Nat × α)) (f : Nat → α), k ∉ l.map (·.1) → updAll f l k = f k := by
        intro l
        induction l with
        | nil => intros; rfl
        | cons p l ih =>
          intro f hn
          simp only [List.map_cons, List.mem_cons, not_or] at hn
          simp only [updAll]
          rw [ih _ hn.2]
          simp only [upd]
          rw [if_neg hn.1]
      rw [out r _ hr, out r _ hr]
      simp [upd]

theorem updAll_out {α : Type} : ∀ (l : List (Nat × α)) (f : Nat → α) (k : Nat), k ∉ l.map (·.1) → updAll f l k = f k
  | [], _, _, _ => rfl
  | (k0, x) :: r, f, k, h => by
    simp only [List.map_cons, List.mem_cons, not_or] at h
    simp only [updAll]
    rw [updAll_out r _ k h.2]
    simp only [upd]
    rw [if_neg h.1]

theorem app_env_in {p : VI × Out} {s : Nat} (h : s ∈ wslots p) (st st' : VSt) : (st.app p.1.dst p.2).env s = (st'.app p.1.dst p.2).env s := by
  simp only [VSt.app, updDst_eq]
  by_cases hd : p.1.dst = some s
  · rw [if_pos hd, if_pos hd]
  · rw [if_neg hd, if_neg hd]
    refine updAll_in _ _ _ _ ?_
    simp only [wslots, List.mem_append, Option.mem_toList] at h
    exact h.resolve_left hd

theorem app_env_out {p : VI × Out} {s : Nat} (h : s ∉ wslots p) (st : VSt) : (st.app p.1.dst p.2).env s = st.env s := by
  simp only [wslots, List.mem_append, Option.mem_toList, not_or] at h
  simp only [VSt.app, updDst_eq]
  rw [if_neg h.1, updAll_out _ _ _ h.2]

theorem app_box_in {p : VI × Out} {k : Nat} (h : k ∈ bkeys p) (st st' : VSt) : (st.app p.1.dst p.2).box k = (st'.app p.1.dst p.2).box k := updAll_in _ _ _ _ h
theorem app_box_out {p : VI × Out} {k : Nat} (h : k ∉ bkeys p) (st : VSt) : (st.app p.1.dst p.2).box k = st.box k := updAll_out _ _ _ h

/-- The state behind those steps alone that D has, in the text's order. -/
def mixL (D : Nat → Bool) : Nat → List (VI × Out) → VSt → VSt
  | _, [], st => st
  | k, p :: r, st => mixL D (k + 1) r (if D k then st.app p.1.dst p.2 else st)

theorem mix_env {D1 D2 : Nat → Bool} {s : Nat} : ∀ (l : List (VI × Out)) (k : Nat) (st1 st2 : VSt), (∀ j p, l[j]? = some p → s ∈ wslots p → D1 (k + j) = D2 (k + j)) → st1.env s = st2.env s → (mixL D1 k l st1).env s = (mixL D2 k l st2).env s
  | [], _, _, _, _, h0 => h0
  | p :: r, k, st1, st2, h, h0 => by
    simp only [mixL]
    refine mix_env r (k + 1) _ _ (fun j p' hj hs => by have := h (j + 1) p' (by simpa using hj) hs; rwa [show k + (j + 1) = k + 1 + j by omega] at this) ?_
    by_cases hs : s ∈ wslots p
    · have := h 0 p rfl hs
      simp only [Nat.add_zero] at this
      rw [this]
      cases D2 k with
      | true => simp only [if_true]; exact app_env_in hs _ _
      | false => exact h0
    · have e1 : (if D1 k = true then st1.app p.1.dst p.2 else st1).env s = st1.env s := by split <;> first | exact app_env_out hs st1 | rfl
      have e2 : (if D2 k = true then st2.app p.1.dst p.2 else st2).env s = st2.env s := by split <;> first | exact app_env_out hs st2 | rfl
      rw [e1, e2]
      exact h0

theorem mix_box {D1 D2 : Nat → Bool} {b : Nat} : ∀ (l : List (VI × Out)) (k : Nat) (st1 st2 : VSt), (∀ j p, l[j]? = some p → b ∈ bkeys p → D1 (k + j) = D2 (k + j)) → st1.box b = st2.box b → (mixL D1 k l st1).box b = (mixL D2 k l st2).box b
  | [], _, _, _, _, h0 => h0
  | p :: r, k, st1, st2, h, h0 => by
    simp only [mixL]
    refine mix_box r (k + 1) _ _ (fun j p' hj hs => by have := h (j + 1) p' (by simpa using hj) hs; rwa [show k + (j + 1) = k + 1 + j by omega] at this) ?_
    by_cases hs : b ∈ bkeys p
    · have := h 0 p rfl hs
      simp only [Nat.add_zero] at this
      rw [this]
      cases D2 k with
      | true => simp only [if_true]; exact app_box_in hs _ _
      | false => exact h0
    · have e1 : (if D1 k = true then st1.app p.1.dst p.2 else st1).box b = st1.box b := by split <;> first | exact app_box_out hs st1 | rfl
      have e2 : (if D2 k = true then st2.app p.1.dst p.2 else st2).box b = st2.box b := by split <;> first | exact app_box_out hs st2 | rfl
      rw [e1, e2]
      exact h0

theorem mix_none_env {D : Nat → Bool} {s : Nat} : ∀ (l : List (VI × Out)) (k : Nat) (st : VSt), (∀ j p, l[j]? = some p → s ∈ wslots p → D (k + j) = false) → (mixL D k l st).env s = st.env s := by
  intro l
  induction l with
  | nil => intros; rfl
  | cons p r ih =>
    intro k st h
    simp only [mixL]
    rw [ih (k + 1) _ (fun j p' hj hs => by have := h (j + 1) p' (by simpa using hj) hs; rwa [show k + (j + 1) = k + 1 + j by omega] at this)]
    by_cases hs : s ∈ wslots p
    · have := h 0 p rfl hs
      simp only [Nat.add_zero] at this
      rw [this]
      rfl
    · split <;> first | exact app_env_out hs st | rfl

theorem mix_none_box {D : Nat → Bool} {b : Nat} : ∀ (l : List (VI × Out)) (k : Nat) (st : VSt), (∀ j p, l[j]? = some p → b ∈ bkeys p → D (k + j) = false) → (mixL D k l st).box b = st.box b := by
  intro l
  induction l with
  | nil => intros; rfl
  | cons p r ih =>
    intro k st h
    simp only [mixL]
    rw [ih (k + 1) _ (fun j p' hj hs => by have := h (j + 1) p' (by simpa using hj) hs; rwa [show k + (j + 1) = k + 1 + j by omega] at this)]
    by_cases hs : b ∈ bkeys p
    · have := h 0 p rfl hs
      simp only [Nat.add_zero] at this
      rw [this]
      rfl
    · split <;> first | exact app_box_out hs st | rfl

theorem mix_last_env {D : Nat → Bool} {s : Nat} {q : VI × Out} (hs : s ∈ wslots q) (st' : VSt) : ∀ (l : List (VI × Out)) (k j : Nat) (st : VSt), l[j]? = some q → D (k + j) = true → (∀ j' p, j < j' → l[j']? = some p → s ∈ wslots p → D (k + j') = false) →
    (mixL D k l st).env s = (st'.app q.1.dst q.2).env s
  | [], _, _, _, hj, _, _ => by simp at hj
  | p :: r, k, 0, st, hj, hD, hn => by
    cases hj
    simp only [Nat.add_zero] at hD
    simp only [mixL, hD, if_true]
    rw [mix_none_env r (k + 1) _ (fun j p' hj' hs' => by have := hn (j + 1) p' (by omega) (by simpa using hj') hs'; rwa [show k + (j + 1) = k + 1 + j by omega] at this)]
    exact app_env_in hs _ _
  | p :: r, k, j + 1, st, hj, hD, hn => by
    simp only [mixL]
    exact mix_last_env hs st' r (k + 1) j _ (by simpa using hj) (by rwa [show k + 1 + j = k + (j + 1) by omega]) (fun j' p' hlt hj' hs' => by
      have := hn (j' + 1) p' (by omega) (by simpa using hj') hs'
      rwa [show k + (j' + 1) = k + 1 + j' by omega] at this)

theorem mix_last_box {D : Nat → Bool} {b : Nat} {q : VI × Out} (hs : b ∈ bkeys q) (st' : VSt) : ∀ (l : List (VI × Out)) (k j : Nat) (st : VSt), l[j]? = some q → D (k + j) = true → (∀ j' p, j < j' → l[j']? = some p → b ∈ bkeys p → D (k + j') = false) →
    (mixL D k l st).box b = (st'.app q.1.dst q.2).box b
  | [], _, _, _, hj, _, _ => by simp at hj
  | p :: r, k, 0, st, hj, hD, hn => by
    cases hj
    simp only [Nat.add_zero] at hD
    simp only [mixL, hD, if_true]
    rw [mix_none_box r (k + 1) _ (fun j p' hj' hs' => by have := hn (j + 1) p' (by omega) (by simpa using hj') hs'; rwa [show k + (j + 1) = k + 1 + j by omega] at this)]
    exact app_box_in hs _ _
  | p :: r, k, j + 1, st, hj, hD, hn => by
    simp only [mixL]
    exact mix_last_box hs st' r (k + 1) j _ (by simpa using hj) (by rwa [show k + 1 + j = k + (j + 1) by omega]) (fun j' p' hlt hj' hs' => by
      have := hn (j' + 1) p' (by omega) (by simpa using hj') hs'
      rwa [show k + (j' + 1) = k + 1 + j' by omega] at this)

/-- Two steps that may change places: the earlier one p in state s, the later one q in state t. -/
def NoConf (p : VI × Out) (ep : Nat → SV) (q : VI × Out) (eq : Nat → SV) : Prop :=
  (∀ s ∈ wslots p, s ∉ q.1.slots ∧ s ∉ wslots q) ∧ (∀ s ∈ wslots q, s ∉ p.1.slots) ∧ (∀ b ∈ bkeys p, b ∉ q.1.keys eq ∧ b ∉ bkeys q) ∧ (∀ b ∈ bkeys q, b ∉ p.1.keys ep)

/-- The state ahead of step k, in the text's order. -/
def ahead (l : List (VI × Out)) (st : VSt) (k : Nat) : VSt := mixL (fun j => decide (j < k)) 0 l st

/-- Step k may come now: what is in conflict with it stands as in the text. -/
def May (l : List (VI × Out)) (st : VSt) (D : Nat → Bool) (k : Nat) : Prop :=
  D k = false ∧ ∀ j p q, l[j]? = some p → l[k]? = some q → j ≠ k →
    D j = decide (j < k) ∨ (j < k ∧ NoConf p (ahead l st j).env q (ahead l st k).env) ∨ (k < j ∧ NoConf q (ahead l st k).env p (ahead l st j).env)

theorem may_eff {P : Program} {l : List (VI × Out)} {st : VSt} {D : Nat → Bool} {k : Nat} {q : VI × Out} (hq : l[k]? = some q) (hm : May l st D k) (he : VEff P q.1 (ahead l st k) q.2) : VEff P q.1 (mixL D 0 l st) q.2 := by
  refine he.like ⟨fun s hs => ?_, fun b hb => ?_⟩
  · refine mix_env l 0 st st (fun j p hj hsp => ?_) rfl
    rw [Nat.zero_add]
    by_cases hjk : j = k
    · subst hjk
      rw [hm.1]
      simp
    · rcases hm.2 j p q hj hq hjk with h | ⟨_, h⟩ | ⟨_, h⟩
      · exact h
      · exact absurd hs (h.1 s hsp).1
      · exact absurd hs (h.2.1 s hsp)
  · refine mix_box l 0 st st (fun j p hj hbp => ?_) rfl
    rw [Nat.zero_add]
    by_cases hjk : j = k
    · subst hjk
      rw [hm.1]
      simp
    · rcases hm.2 j p q hj hq hjk with h | ⟨_, h⟩ | ⟨_, h⟩
      · exact h
      · rcases hb with hb | hb
        · exact absurd hb (h.2.2.1 b hbp).1
        · exact absurd hb (h.2.2.1 b hbp).2
      · rcases hb with hb | hb
        · exact absurd hb (h.2.2.2 b hbp)
        · exact absurd hbp (h.2.2.1 b hb).2

theorem may_step {l : List (VI × Out)} {st : VSt} {D D' : Nat → Bool} {k : Nat} {q : VI × Out} (hq : l[k]? = some q) (hm : May l st D k) (hD : ∀ j, D' j = if j = k then true else D j) : mixL D' 0 l st = (mixL D 0 l st).app q.1.dst q.2 := by
  have henv : ∀ s, (mixL D' 0 l st).env s = ((mixL D 0 l st).app q.1.dst q.2).env s := by
    intro s
    by_cases hs : s ∈ wslots q
    · refine mix_last_env hs _ l 0 k st hq (by rw [Nat.zero_add, hD]; simp) (fun j p hlt hj hsp => ?_)
      rw [Nat.zero_add, hD, if_neg (by omega)]
      rcases hm.2 j p q hj hq (by omega) with h | ⟨h0, _⟩ | ⟨_, h⟩
      · rw [h]; simp; omega
      · omega
      · exact absurd hsp (h.1 s hs).2
    · rw [app_env_out hs]
      refine mix_env l 0 st st (fun j p hj hsp => ?_) rfl
      rw [Nat.zero_add, hD, if_neg]
      rintro rfl
      rw [hq] at hj
      cases hj
      exact hs hsp
  have hbox : ∀ b, (mixL D' 0 l st).box b = ((mixL D 0 l st).app q.1.dst q.2).box b := by
    intro b
    by_cases hs : b ∈ bkeys q
    · refine mix_last_box hs _ l 0 k st hq (by rw [Nat.zero_add, hD]; simp) (fun j p hlt hj hsp => ?_)
      rw [Nat.zero_add, hD, if_neg (by omega)]
      rcases hm.2 j p q hj hq (by omega) with h | ⟨h0, _⟩ | ⟨_, h⟩
      · rw [h]; simp; omega
      · omega
      · exact absurd hsp (h.2.2.1 b hs).2
    · rw [app_box_out hs]
      refine mix_box l 0 st st (fun j p hj hsp => ?_) rfl
      rw [Nat.zero_add, hD, if_neg]
      rintro rfl
      rw [hq] at hj
      cases hj
      exact hs hsp
  generalize mixL D' 0 l st = x at henv hbox
  generalize (mixL D 0 l st).app q.1.dst q.2 = y at henv hbox
  cases x
  cases y
  simp only [VSt.mk.injEq]
  exact ⟨funext henv, funext hbox⟩

end Go.V

