/- The value machine, part 22: code, and what holds behind it. -/
import Derived.Test.YtglmbheeplndpaaV21
import Derived.Scope
import Derived.Deep.LoopGhost
import Derived.ControlIn
import Derived.OrdersIn
set_option linter.all false
set_option linter.unusedSimpArgs false
set_option linter.unusedVariables false
namespace Go.V
open Go

inductive VExit where
  | normal
  | exit (id : Nat)
  | goto (l : Nat)
  | ret

inductive VC where
  | skip
  | ret
  | dead
  | nilq (is : List VI) (d : Nat) (neg : Bool) (x : VX)
  | region (is : List VI)
  | draw (un : List (Nat × Nat)) (is : List VI)
  | seq (x y : VC)
  | cond (c : VX) (x y : VC)
  | block (id : Nat) (x : VC)
  | loop (x : VC)
  | exit (id : Nat)
  | scope (x : VC)
  | scope1 (x : VC) (l : Nat) (rest : VC)
  | label (l : Nat)
  | goto (l : Nat)

/-- The labels of a scope. -/
def labelsV : VC → List Nat
  | .seq a b => labelsV a ++ labelsV b
  | .label l => [l]
  | _ => []

/-- What stands behind a label. -/
def findLabelV : VC → Nat → Option VC
  | .seq a b, l =>
    match findLabelV a l with
    | some rest => some (.seq rest b)
    | none => findLabelV b l
  | .label l', l => if l' == l then some .skip else none
  | _, _ => none

def mkScope (x : VC) : VC :=
  match labelsV x with
  | [l] => match findLabelV x l with | some r => .scope1 x l r | none => .scope x
  | _ => .scope x

/-- A region whose last operation asks whether a slice is nil. -/
def cnil (P : Program) (N : Nat) (takes : List Nat) (ops : Array Oper) : Option (List VI × Nat × Bool × VX) :=
  match ops.toList.getLast? with
  | some o =>
    match o.op, o.dst, o.guard with
    | .binOp op t x (.const (.slice none 0 0)) _, some d, none =>
      match P.underlying t, cx N x, cinstrs P N takes ops ops.toList.dropLast with
      | some (.slice _), some x, some is => match op with | .eql => some (is, d, false, x) | .neq => some (is, d, true, x) | _ => none
      | _, _, _ => none
    | _, _, _ => none
  | none => none

def cc (P : Program) (N : Nat) (takes : List Nat) : Code → VC
  | .skip => .skip
  | .ret => .ret
  | .region _ ops false =>
    match cinstrs P N takes ops ops.toList with
    | some is => .region is
    | none => match cnil P N takes ops with | some (is, d, neg, x) => .nilq is d neg x | none => .dead
  | .region _ ops true =>
    match cinstrs P N takes ops ops.toList with
    | some is => match cdraw ops.toList is with | some un => .draw un is | none => .dead
    | none => .dead
  | .seq x y => .seq (cc P N takes x) (cc P N takes y)
  | .cond c x y => match cx N c with | some c => .cond c (cc P N takes x) (cc P N takes y) | none => .dead
  | .block id x => .block id (cc P N takes x)
  | .loop x => .loop (cc P N takes x)
  | .exit id => .exit id
  | .scope x => mkScope (cc P N takes x)
  | .label l => .label l
  | .goto l => .goto l
  | _ => .dead

abbrev VQ := VExit → VSt → Prop

def VQ.then (K : VSt → Prop) (Q : VQ) : VQ
  | .normal, st => K st
  | e, st => Q e st

def VQ.inBlock (id : Nat) (Q : VQ) : VQ
  | .exit id', st => if id' = id then Q .normal st else Q (.exit id') st
  | e, st => Q e st

def VQ.noGoto (Q : VQ) : VQ
  | .goto _, _ => False
  | e, st => Q e st

def VQ.jump (l : Nat) (J : VSt → Prop) (Q : VQ) : VQ
  | .goto l', st => l' = l ∧ J st
  | e, st => Q e st

/-- A list of instructions, and what holds behind it. -/
def wpI (P : Program) : List VI → (VSt → Prop) → VSt → Prop
  | [], K, st => K st
  | i :: is, K, st => ∃ o, VEff P i st o ∧ wpI P is K (st.app i.dst o)

/-- The same, with what the steps looked at among the boxes. -/
def wpD (P : Program) : List VI → (List (List Nat × List Nat) → VSt → Prop) → VSt → Prop
  | [], K, st => K [] st
  | i :: is, K, st => ∃ o, VEff P i st o ∧ wpD P is (fun acc st' => K ((i.keys st.env, o.boxes.map (·.1)) :: acc) st') (st.app i.dst o)

def wpV (P : Program) : VC → VQ → VSt → Prop
  | .skip, Q, st => Q .normal st
  | .ret, Q, st => Q .ret st
  | .dead, _, _ => False
  | .nilq is d neg x, Q, st => wpI P is (fun st' => ∃ xs, (x.get st'.env).elems = some xs ∧ ∀ b, (b = true → xs = []) → Q .normal (st'.app (some d) { val := .c (.d (.v (.bool (if neg then !b else b)))) })) st
  | .region is, Q, st => wpI P is (Q .normal) st
  | .draw [] is, Q, st => wpI P is (Q .normal) st
  | .draw un is, Q, st => wpD P is (fun acc st' => okKeys un acc = true ∧ Q .normal st') st
  | .seq x y, Q, st => wpV P x (VQ.then (wpV P y Q) Q) st
  | .cond c x y, Q, st => ∃ b, (c.get st.env).bool? = some b ∧ (b = true → wpV P x Q st) ∧ (b = false → wpV P y Q st)
  | .block id x, Q, st => wpV P x (VQ.inBlock id Q) st
  | .loop x, Q, st => ∃ (I : Nat → VSt → Prop) (n : Nat), I n st ∧ ∀ n st, I n st → wpV P x (VQ.then (fun st' => ∃ n', n' < n ∧ I n' st') Q) st
  | .exit id, Q, st => Q (.exit id) st
  | .scope x, Q, st => wpV P x (VQ.noGoto Q) st
  | .scope1 x l r, Q, st => wpV P x (VQ.jump l (fun st => wpV P r (VQ.noGoto Q) st) Q) st
  | .label _, Q, st => Q .normal st
  | .goto l, Q, st => Q (.goto l) st

theorem VQ.then_mono {K K' : VSt → Prop} {Q Q' : VQ} (hk : ∀ st, K st → K' st) (hq : ∀ e st, Q e st → Q' e st) : ∀ e st, VQ.then K Q e st → VQ.then K' Q' e st := by
  intro e st h
  cases e with
  | normal => exact hk _ h
  | _ => exact hq _ _ h

theorem VQ.inBlock_mono {id : Nat} {Q Q' : VQ} (hq : ∀ e st, Q e st → Q' e st) : ∀ e st, VQ.inBlock id Q e st → VQ.inBlock id Q' e st := by
  intro e st h
  cases e with
  | exit id' =>
    simp only [VQ.inBlock] at h ⊢
    split
    · rename_i hi; rw [if_pos hi] at h; exact hq _ _ h
    · rename_i hi; rw [if_neg hi] at h; exact hq _ _ h
  | _ => exact hq _ _ h

theorem VQ.noGoto_mono {Q Q' : VQ} (hq : ∀ e st, Q e st → Q' e st) : ∀ e st, VQ.noGoto Q e st → VQ.noGoto Q' e st := by
  intro e st h
  cases e with
  | goto l => exact h.elim
  | _ => exact hq _ _ h

theorem VQ.jump_mono {l : Nat} {J J' : VSt → Prop} {Q Q' : VQ} (hj : ∀ st, J st → J' st) (hq : ∀ e st, Q e st → Q' e st) : ∀ e st, VQ.jump l J Q e st → VQ.jump l J' Q' e st := by
  intro e st h
  cases e with
  | goto l => exact ⟨h.1, hj _ h.2⟩
  | _ => exact hq _ _ h

theorem wpI_mono {P : Program} : ∀ {is : List VI} {K K' : VSt → Prop} {st : VSt}, (∀ st, K st → K' st) → wpI P is K st → wpI P is K' st
  | [], _, _, _, hk, h => hk _ h
  | _ :: _, _, _, _, hk, ⟨o, h1, h2⟩ => ⟨o, h1, wpI_mono hk h2⟩

theorem wpD_mono {P : Program} : ∀ {is : List VI} {K K' : List (List Nat × List Nat) → VSt → Prop} {st : VSt}, (∀ acc st, K acc st → K' acc st) → wpD P is K st → wpD P is K' st
  | [], _, _, _, hk, h => hk _ _ h
  | _ :: _, _, _, _, hk, ⟨o, h1, h2⟩ => ⟨o, h1, wpD_mono (fun _ _ => hk _ _) h2⟩

theorem wpV_mono {P : Program} : ∀ {c : VC} {Q Q' : VQ} {st : VSt}, (∀ e st, Q e st → Q' e st) → wpV P c Q st → wpV P c Q' st
  | .skip, _, _, _, hq, h => hq _ _ h
  | .ret, _, _, _, hq, h => hq _ _ h
  | .dead, _, _, _, _, h => h.elim
  | .nilq _ _ _ _, _, _, _, hq, h => wpI_mono (fun _ ⟨xs, h1, h2⟩ => ⟨xs, h1, fun b hb => hq _ _ (h2 b hb)⟩) h
  | .region _, _, _, _, hq, h => wpI_mono (hq _) h
  | .draw [] _, _, _, _, hq, h => wpI_mono (hq _) h
  | .draw (_ :: _) _, _, _, _, hq, h => wpD_mono (fun _ _ h => ⟨h.1, hq _ _ h.2⟩) h
  | .seq x y, Q, Q', st, hq, h => by
    have h' : wpV P x (VQ.then (wpV P y Q) Q) st := h
    have : wpV P x (VQ.then (wpV P y Q') Q') st := wpV_mono (VQ.then_mono (fun _ h => wpV_mono hq h) hq) h'
    exact this
  | .cond _ _ _, _, _, _, hq, ⟨b, h1, h2, h3⟩ => ⟨b, h1, fun hb => wpV_mono hq (h2 hb), fun hb => wpV_mono hq (h3 hb)⟩
  | .block id x, Q, Q', st, hq, h => by
    have h' : wpV P x (VQ.inBlock id Q) st := h
    have : wpV P x (VQ.inBlock id Q') st := wpV_mono (VQ.inBlock_mono hq) h'
    exact this
  | .loop _, _, _, _, hq, ⟨I, n, h0, h1⟩ => ⟨I, n, h0, fun n st hI => wpV_mono (VQ.then_mono (fun _ h => h) hq) (h1 n st hI)⟩
  | .exit _, _, _, _, hq, h => hq _ _ h
  | .scope x, Q, Q', st, hq, h => by
    have h' : wpV P x (VQ.noGoto Q) st := h
    have : wpV P x (VQ.noGoto Q') st := wpV_mono (VQ.noGoto_mono hq) h'
    exact this
  | .scope1 x l r, Q, Q', st, hq, h => by
    have h' : wpV P x (VQ.jump l (fun st => wpV P r (VQ.noGoto Q) st) Q) st := h
    have : wpV P x (VQ.jump l (fun st => wpV P r (VQ.noGoto Q') st) Q') st := wpV_mono (VQ.jump_mono (fun _ h => wpV_mono (VQ.noGoto_mono hq) h) hq) h'
    exact this
  | .label _, _, _, _, hq, h => hq _ _ h
  | .goto _, _, _, _, hq, h => hq _ _ h

def VExit.to : VExit → Exit
  | .normal => .normal
  | .exit id => .exit id
  | .goto l => .goto l
  | .ret => .ret

theorem wpI_runs {P : Program} : ∀ {is : List VI} {K : VSt → Prop} {st : VSt}, wpI P is K st → ∃ os, Runs P is st os ∧ K (finalOf is os st)
  | [], _, _, h => ⟨[], trivial, h⟩
  | _ :: _, _, _, ⟨o, h1, h2⟩ => by
    obtain ⟨os, h3, h4⟩ := wpI_runs h2
    exact ⟨o :: os, ⟨h1, h3⟩, h4⟩

theorem wpD_runs {P : Program} : ∀ {is : List VI} {K : List (List Nat × List Nat) → VSt → Prop} {st : VSt}, wpD P is K st → ∃ os, Runs P is st os ∧ K (accs is os st) (finalOf is os st)
  | [], _, _, h => ⟨[], trivial, h⟩
  | _ :: _, _, _, ⟨o, h1, h2⟩ => by
    obtain ⟨os, h3, h4⟩ := wpD_runs h2
    exact ⟨o :: os, ⟨h1, h3⟩, h4⟩

section
variable {P : Program} {w0 : World} {S0 : Stab} {ow0 : Nat → Option Pl} {bx0 : Tab} {loc0 : Nat → Nat} {N : Nat} {rd : Option Nat} {nn : Nat}

/-- In the order of the text, and then the rest. -/
theorem ops_sound_rest {takes : List Nat} {ops : Array Oper} {Q : Exit → Act → World → Prop} (rest : List Nat) : ∀ (l : List Oper) (is : List VI) (k : Nat) (st : VSt) (os : List Out) (a : Act) (w : World), (∀ j, j < l.length → l[j]? = ops[k + j]?) → Instrs P N takes ops l is → Runs P is st os →
    R w0 S0 ow0 bx0 loc0 N st a w → (∀ a' w', R w0 S0 ow0 bx0 loc0 N (finalOf is os st) a' w' → wpOpsIn (FW rd) nn P ops Q rest a' w') → wpOpsIn (FW rd) nn P ops Q (List.range' k l.length ++ rest) a w
  | [], [], k, st, [], a, w, _, _, _, hR, hq => hq a w hR
  | o :: r, i :: is, k, st, ou :: os, a, w, hl, hi, hr, hR, hq => by
    simp only [List.length_cons, List.range'_succ, List.cons_append]
    rw [wpOpsIn_cons]
    have h0 : ops[k]? = some o := by simpa using (hl 0 (by simp)).symm
    refine instr_sound h0 hi.1 hR hr.1 (fun a' w' hR' => ?_)
    exact ops_sound_rest rest r is (k + 1) _ os a' w' (fun j hj => by have := hl (j + 1) (by simpa using hj); simpa [Nat.add_assoc, Nat.add_comm 1 j] using this) hi.2 hr.2 hR' hq
  | [], _ :: _, _, _, _, _, _, _, hi, _, _, _ => by cases hi
  | _ :: _, [], _, _, _, _, _, _, hi, _, _, _ => by cases hi
  | [], [], _, _, _ :: _, _, _, _, _, hr, _, _ => by cases hr
  | _ :: _, _ :: _, _, _, [], _, _, _, _, hr, _, _ => by cases hr

theorem run_equalIn_nil (w : World) (d : Nat) (ad : Option Addr) (n c : Nat) {t e : TypeId} (ht : P.underlying t = some (.slice e)) : (Op.equalIn (d + 1) t (.slice ad n c) (.slice none 0 0)).run P w = .ok ad.isNone w := by
  cases ad <;> simp [Op.equalIn, run_underlying ht]

/-- Is a slice nil? Of an empty one that is open. -/
theorem nil_sound {ops : Array Oper} {n : Nat} {o : Oper} (ho : ops[n]? = some o) {op : BinOp} {t t' : TypeId} {x : Operand} {d : Nat} {e : TypeId} (hop : o.op = .binOp op t x (.const (.slice none 0 0)) t') (hd : o.dst = some d) (hg : o.guard = none) (ht : P.underlying t = some (.slice e))
    {y : VX} (hx : cx N x = some y) {neg : Bool} (hneg : op = if neg then .neq else .eql) {st : VSt} {a : Act} {w : World} (hR : R w0 S0 ow0 bx0 loc0 N st a w) {xs : List (List D)} (hxs : (y.get st.env).elems = some xs) {K : Act → World → Prop} {Q : Exit → Act → World → Prop}
    (hk : ∀ b, (b = true → xs = []) → ∀ a' w', R w0 S0 ow0 bx0 loc0 N (st.app (some d) { val := .c (.d (.v (.bool (if neg then !b else b)))) }) a' w' → K a' w') : wpOpIn (FW rd) nn P ops Q n K a w := by
  obtain ⟨S, loc, ow, hh, hK, hsz, hdf, hL⟩ := hR
  have hr := RepV.elems (cx_rep hh hx).1 hxs
  have hslice : ∃ ad c, a.eval x = .slice ad xs.length c ∧ (ad = none → xs = []) := by
    generalize a.eval x = v at hr
    cases hr with
    | sl _ ad c sz val hc hm hz ha hr' =>
      refine ⟨ad, c, rfl, fun hn => ?_⟩
      by_cases hx0 : xs = []
      · exact hx0
      · obtain ⟨g, o', he, _⟩ := ha hx0
        rw [hn] at he
        cases he
  obtain ⟨ad, c, hev, hnil⟩ := hslice
  have hrun : (execOp a.eval o).run P w = .ok (.value (.bool (if neg then !ad.isNone else ad.isNone))) w := by
    refine execOp_val (exec_binOp (ρ := a.eval) hop) _ ?_
    have e1 : a.eval (.const (.slice none 0 0)) = .slice none 0 0 := rfl
    rw [hev, e1]
    have hgd : (eqGuard op t x (.const (.slice none 0 0)) (.slice ad xs.length c) (.slice none 0 0)).run P w = .ok () w := by unfold eqGuard; split <;> rfl
    rw [Sem.run_bind, hgd, Result.andThen_ok]
    cases neg with
    | true =>
      subst hneg
      have e2 : binOp .neq t (.slice ad xs.length c) (.slice none 0 0) = (do pure (.bool (!(← Op.equalIn (9999 + 1) t (.slice ad xs.length c) (.slice none 0 0)))) : Sem Value) := rfl
      simp only [if_true, e2, Sem.run_bind, run_equalIn_nil w 9999 ad xs.length c ht, Result.andThen_ok, Sem.run_pure]
    | false =>
      subst hneg
      have e2 : binOp .eql t (.slice ad xs.length c) (.slice none 0 0) = (do pure (.bool (← Op.equalIn (9999 + 1) t (.slice ad xs.length c) (.slice none 0 0))) : Sem Value) := rfl
      simp only [Bool.false_eq_true, if_false, e2, Sem.run_bind, run_equalIn_nil w 9999 ad xs.length c ht, Result.andThen_ok, Sem.run_pure]
  unfold wpOpIn
  rw [ho]
  simp only [Region.wanted, hg, if_true]
  exact does_R hK hsz hdf hL hd (fun c h => by rw [hop] at h; cases h) (does_atom hh (some d) hrun rfl) (fun a' w' hR' => hk ad.isNone (fun hb => hnil (by cases ad <;> simp_all)) a' w' hR')

theorem findLabel_cc {takes : List Nat} : ∀ (c : Code) (l : Nat), findLabelV (cc P N takes c) l = (findLabel c l).map (cc P N takes)
  | .seq a b, l => by
    simp only [cc, findLabelV, findLabel, findLabel_cc a l, findLabel_cc b l]
    cases findLabel a l <;> simp [cc]
  | .label l', l => by
    simp only [cc, findLabelV, findLabel]
    split <;> simp [cc]
  | .skip, l => rfl
  | .ret, l => rfl
  | .region id ops true, l => by
    simp only [cc, findLabel, Option.map_none]
    split
    · split <;> rfl
    · rfl
  | .region id ops false, l => by
    simp only [cc, findLabel, Option.map_none]
    split
    · rfl
    · split <;> rfl
  | .cond c x y, l => by simp only [cc, findLabel, Option.map_none]; split <;> rfl
  | .block id x, l => rfl
  | .loop x, l => rfl
  | .exit id, l => rfl
  | .scope x, l => by
    simp only [cc, findLabel, Option.map_none, mkScope]
    split
    · split <;> rfl
    · rfl
  | .goto l', l => rfl
  | .rangeFunc .., l => rfl
  | .refuse .., l => rfl

/-- The walk of a piece of code is sound. -/
def Snd (P : Program) (w0 : World) (S0 : Stab) (ow0 : Nat → Option Pl) (bx0 : Tab) (loc0 : Nat → Nat) (N : Nat) (rd : Option Nat) (nn : Nat) (takes : List Nat) (c : Code) : Prop :=
  ∀ {Qv : VQ} {st : VSt} {Q : Exit → Act → World → Prop} {a : Act} {w : World}, wpV P (cc P N takes c) Qv st → R w0 S0 ow0 bx0 loc0 N st a w →
    (∀ e st a w, Qv e st → R w0 S0 ow0 bx0 loc0 N st a w → Q e.to a w) → c.wpIn (FW rd) nn P Q a w

theorem snd_seq {takes : List Nat} {x y : Code} (ihx : Snd P w0 S0 ow0 bx0 loc0 N rd nn takes x) (ihy : Snd P w0 S0 ow0 bx0 loc0 N rd nn takes y) : Snd P w0 S0 ow0 bx0 loc0 N rd nn takes (.seq x y) := by
  intro Qv st Q a w h hR hq
  refine wpIn_seq (ihx h hR (fun e st' a' w' he hR' => ?_))
  cases e with
  | normal => exact ihy he hR' hq
  | exit id => exact hq (.exit id) _ _ _ he hR'
  | goto l => exact hq (.goto l) _ _ _ he hR'
  | ret => exact hq .ret _ _ _ he hR'

theorem snd_skip {takes : List Nat} : Snd P w0 S0 ow0 bx0 loc0 N rd nn takes .skip := fun h hR hq => wpIn_skip (hq _ _ _ _ h hR)

theorem stepR_scope {P : Program} {b : Frame} {a : Act} {k : List Item} {cs : List Frame} {w : World} {c : Code} : step P (lone (b.atR a (.code (.scope c) :: k)) cs w) = .next (lone (b.atR a (.code c :: .inScope c :: k)) cs w) :=
  step_lone_go (by simp [stepG, stepG.exec, Frame.atR])
theorem stepR_inScope {P : Program} {b : Frame} {a : Act} {k : List Item} {cs : List Frame} {w : World} {c : Code} : step P (lone (b.atR a (.inScope c :: k)) cs w) = .next (lone (b.atR a k) cs w) :=
  step_lone_go (by simp [stepG, stepG.exec, Frame.atR])

theorem wpIn_scope_straight {c : Code} {Q : Exit → Act → World → Prop} {a : Act} {w : World} {F : Fence} {n : Nat} (h : c.wpIn F n P (Exit.noGoto Q) a w) : (Code.scope c).wpIn F n P Q a w := by
  intro b k cs hro hb hr
  obtain ⟨e, a₁, w₁, hq, harr⟩ := h b (.inScope c :: k) cs hro hb hr
  have s0 : StepsIn (Machine.fenced P F) P (lone (b.atR a (.code (.scope c) :: k)) cs w) (lone (b.atR a (.code c :: .inScope c :: k)) cs w) := .one (fenced_calm hb hr rfl) stepR_scope
  cases e with
  | normal => exact ⟨.normal, a₁, w₁, hq, s0.trans (StepsIn.trans harr (.one (fenced_calm hb hr rfl) stepR_inScope))⟩
  | exit id =>
    refine ⟨.exit id, a₁, w₁, hq, .of_steps s0 ⟨fun k' hk => harr.1 k' (by simp [exitTo, hk]), fun h1 h2 => harr.2 h1 (by simp [exitTo, h2])⟩⟩
  | goto l => exact hq.elim
  | ret => exact ⟨_, a₁, w₁, hq, .of_steps s0 harr⟩
  | panic ch => exact ⟨_, a₁, w₁, hq, .of_steps s0 harr⟩
  | outgrown => exact ⟨_, a₁, w₁, hq, .of_steps s0 harr⟩

/-- A scope in which the run jumps on once, to one label. -/
theorem wpIn_scope_once {c rest : Code} {l : Nat} {J : Act → World → Prop} {Q : Exit → Act → World → Prop} {a : Act} {w : World} {F : Fence} {n : Nat} (hf : findLabel c l = some rest)
    (first : c.wpIn F n P (fun e a w => match e with | .goto l' => l' = l ∧ J a w | e => Q e a w) a w) (pass : ∀ a w, J a w → rest.wpIn F n P (Exit.noGoto Q) a w) : (Code.scope c).wpIn F n P Q a w := by
  intro b k cs hro hb hr
  have hg : gotoIn l (.inScope c :: k) = some (.code rest :: .inScope c :: k) := by simp [gotoIn, hf]
  obtain ⟨e, a₁, w₁, hq, harr⟩ := first b (.inScope c :: k) cs hro hb hr
  have s0 : StepsIn (Machine.fenced P F) P (lone (b.atR a (.code (.scope c) :: k)) cs w) (lone (b.atR a (.code c :: .inScope c :: k)) cs w) := .one (fenced_calm hb hr rfl) stepR_scope
  cases e with
  | normal => exact ⟨.normal, a₁, w₁, hq, s0.trans (StepsIn.trans harr (.one (fenced_calm hb hr rfl) stepR_inScope))⟩
  | exit id =>
    refine ⟨.exit id, a₁, w₁, hq, .of_steps s0 ⟨fun k' hk => harr.1 k' (by simp [exitTo, hk]), fun h1 h2 => harr.2 h1 (by simp [exitTo, h2])⟩⟩
  | goto l' =>
    obtain ⟨rfl, hJ⟩ := hq
    obtain ⟨e₂, a₂, w₂, hq₂, harr₂⟩ := pass a₁ w₁ hJ b (.inScope c :: k) cs hro hb hr
    have s1 := s0.trans (harr.1 _ hg)
    cases e₂ with
    | normal => exact ⟨.normal, a₂, w₂, hq₂, s1.trans (StepsIn.trans harr₂ (.one (fenced_calm hb hr rfl) stepR_inScope))⟩
    | exit id =>
      refine ⟨.exit id, a₂, w₂, hq₂, .of_steps s1 ⟨fun k' hk => harr₂.1 k' (by simp [exitTo, hk]), fun h1 h2 => harr₂.2 h1 (by simp [exitTo, h2])⟩⟩
    | goto l => exact hq₂.elim
    | ret => exact ⟨_, a₂, w₂, hq₂, .of_steps s1 harr₂⟩
    | panic ch => exact ⟨_, a₂, w₂, hq₂, .of_steps s1 harr₂⟩
    | outgrown => exact ⟨_, a₂, w₂, hq₂, .of_steps s1 harr₂⟩
  | ret => exact ⟨_, a₁, w₁, hq, .of_steps s0 harr⟩
  | panic ch => exact ⟨_, a₁, w₁, hq, .of_steps s0 harr⟩
  | outgrown => exact ⟨_, a₁, w₁, hq, .of_steps s0 harr⟩

/-- A loop; what holds at its head bears a number that falls. -/
theorem wpIn_loop_ghost {c : Code} {F : Fence} {n : Nat} {Q : Exit → Act → World → Prop} {a : Act} {w : World} (I : Nat → Act → World → Prop) (m : Nat) (h₀ : I m a w)
    (round : ∀ m a w, I m a w → c.wpIn F n P (Exit.then (fun a' w' => ∃ m', m' < m ∧ I m' a' w') Q) a w) : (Code.loop c).wpIn F n P Q a w := by
  refine wpIn_loop (fun a w => ∃ m, I m a w) (fun a w => leastOf (fun m => I m a w)) ⟨m, h₀⟩ (fun a w hI => ?_)
  refine Code.wpIn_mono (fun e a' w' hq => ?_) (round _ a w (leastOf_spec hI).1)
  cases e with
  | normal =>
    obtain ⟨m', hlt, hI'⟩ := hq
    exact ⟨⟨m', hI'⟩, Nat.lt_of_le_of_lt ((leastOf_spec ⟨m', hI'⟩).2 m' hI') hlt⟩
  | _ => exact hq

theorem wpV_sound_all (hm : P.follows .mixedOrders = true) {takes : List Nat} : ∀ (c : Code), Snd P w0 S0 ow0 bx0 loc0 N rd nn takes c ∧ ∀ l r, findLabel c l = some r → Snd P w0 S0 ow0 bx0 loc0 N rd nn takes r := by
  intro c
  induction c with
  | skip => exact ⟨snd_skip, fun l r h => by cases h⟩
  | ret => exact ⟨fun h hR hq => wpIn_ret (hq _ _ _ _ h hR), fun l r h => by cases h⟩
  | region id ops draw =>
    refine ⟨?_, fun l r h => by cases h⟩
    intro Qv st Q a w h hR hq
    cases draw with
    | false =>
      simp only [cc] at h
      split at h
      · rename_i is his
        obtain ⟨os, h1, h2⟩ := wpI_runs h
        exact region_sound his h1 hR (fun a' w' hR' => hq _ _ _ _ h2 hR')
      · split at h
        · rename_i is d neg x hn
          unfold cnil at hn
          split at hn
          · rename_i o hlast
            split at hn
            · rename_i op t xo t' d' hop hd hg
              split at hn
              · rename_i e y is' ht hx his
                have hpair : is = is' ∧ d = d' ∧ x = y ∧ op = if neg then .neq else .eql := by
                  split at hn
                  · cases hn; exact ⟨rfl, rfl, rfl, rfl⟩
                  · cases hn; exact ⟨rfl, rfl, rfl, rfl⟩
                  · cases hn
                obtain ⟨rfl, rfl, rfl, hneg⟩ := hpair
                obtain ⟨os, h1, xs, h2, h3⟩ := wpI_runs h
                have hlen : ops.size = ops.toList.dropLast.length + 1 := by
                  have hne : ops.toList ≠ [] := by intro he; rw [he] at hlast; cases hlast
                  have := List.length_pos_iff.2 hne
                  simp only [List.length_dropLast, Array.length_toList] at this ⊢
                  omega
                refine wpIn_region ?_
                rw [List.range_eq_range', hlen, List.range'_concat]
                simp only [Nat.one_mul, Nat.zero_add]
                refine ops_sound_rest [ops.toList.dropLast.length] ops.toList.dropLast is 0 st os a w (fun j hj => ?_) (cinstrs_spec his) h1 hR (fun a' w' hR' => ?_)
                · rw [List.getElem?_dropLast]
                  simp only [List.length_dropLast] at hj
                  rw [if_pos (by simpa using hj)]
                  simp
                · rw [wpOpsIn_cons]
                  have hol : ops[ops.toList.dropLast.length]? = some o := by
                    rw [List.getLast?_eq_getElem?] at hlast
                    simpa using hlast
                  refine nil_sound hol hop hd hg ht hx hneg hR' h2 (fun b hb a2 w2 hR2 => ?_)
                  exact hq .normal _ _ _ (h3 b hb) hR2
              · cases hn
            · cases hn
          · cases hn
        · exact h.elim
    | true =>
      simp only [cc] at h
      split at h
      · rename_i is his
        split at h
        · rename_i un hun
          cases un with
          | nil =>
            obtain ⟨os, h1, h2⟩ := wpI_runs h
            exact region_draw_sound hm his hun h1 rfl hR (fun a' w' hR' => hq _ _ _ _ h2 hR')
          | cons p un =>
            obtain ⟨os, h1, h2, h3⟩ := wpD_runs h
            exact region_draw_sound hm his hun h1 h2 hR (fun a' w' hR' => hq _ _ _ _ h3 hR')
        · exact h.elim
      · exact h.elim
  | seq x y ihx ihy =>
    refine ⟨snd_seq ihx.1 ihy.1, fun l r h => ?_⟩
    simp only [findLabel] at h
    split at h
    · rename_i rest hr
      cases h
      exact snd_seq (ihx.2 l _ hr) ihy.1
    · exact ihy.2 l r h
  | cond c x y ihx ihy =>
    refine ⟨?_, fun l r h => by cases h⟩
    intro Qv st Q a w h hR hq
    simp only [cc] at h
    split at h
    · rename_i vc hcx
      obtain ⟨b, hb, h1, h2⟩ := h
      have hR2 := hR
      obtain ⟨S, loc, ow, hh, _⟩ := hR2
      have hev : a.eval c = .bool b := by
        have hr := (cx_rep hh hcx).1
        unfold SV.bool? at hb
        split at hb
        · rename_i b' hb'
          cases hb
          rw [hb'] at hr
          exact hr.atom
        · cases hb
      refine wpIn_cond hev ?_
      cases b with
      | true => exact ihx.1 (h1 rfl) hR hq
      | false => exact ihy.1 (h2 rfl) hR hq
    · exact h.elim
  | block id x ih =>
    refine ⟨?_, fun l r h => by cases h⟩
    intro Qv st Q a w h hR hq
    refine wpIn_block (ih.1 h hR (fun e st' a' w' he hR' => ?_))
    cases e with
    | normal => exact hq .normal _ _ _ he hR'
    | exit id' =>
      simp only [VExit.to, Exit.inBlock]
      simp only [VQ.inBlock] at he
      split
      · rename_i hi; rw [if_pos hi] at he; exact hq .normal _ _ _ he hR'
      · rename_i hi; rw [if_neg hi] at he; exact hq (.exit id') _ _ _ he hR'
    | goto l => exact hq (.goto l) _ _ _ he hR'
    | ret => exact hq .ret _ _ _ he hR'
  | loop x ih =>
    refine ⟨?_, fun l r h => by cases h⟩
    intro Qv st Q a w h hR hq
    obtain ⟨I, n, h0, h1⟩ := h
    refine wpIn_loop_ghost (fun n a w => ∃ st, I n st ∧ R w0 S0 ow0 bx0 loc0 N st a w) n ⟨st, h0, hR⟩ (fun n a w ⟨st', hI, hR'⟩ => ?_)
    refine ih.1 (h1 n st' hI) hR' (fun e st2 a2 w2 he hR2 => ?_)
    cases e with
    | normal =>
      obtain ⟨n', hn', hI'⟩ := he
      exact ⟨n', hn', st2, hI', hR2⟩
    | exit id => exact hq (.exit id) _ _ _ he hR2
    | goto l => exact hq (.goto l) _ _ _ he hR2
    | ret => exact hq .ret _ _ _ he hR2
  | exit id => exact ⟨fun h hR hq => wpIn_exit (hq _ _ _ _ h hR), fun l r h => by cases h⟩
  | scope x ih =>
    refine ⟨?_, fun l r h => by cases h⟩
    intro Qv st Q a w h hR hq
    have straight : wpV P (cc P N takes x) (VQ.noGoto Qv) st → (Code.scope x).wpIn (FW rd) nn P Q a w := fun h =>
      wpIn_scope_straight (ih.1 h hR (fun e st' a' w' he hR' => by
        cases e with
        | normal => exact hq .normal _ _ _ he hR'
        | exit id' => exact hq (.exit id') _ _ _ he hR'
        | goto l => exact he.elim
        | ret => exact hq .ret _ _ _ he hR'))
    simp only [cc, mkScope] at h
    split at h
    · rename_i l hl
      split at h
      · rename_i r hr
        rw [findLabel_cc] at hr
        obtain ⟨rest, hf, rfl⟩ := Option.map_eq_some_iff.1 hr
        refine wpIn_scope_once hf (J := fun a w => ∃ st, wpV P (cc P N takes rest) (VQ.noGoto Qv) st ∧ R w0 S0 ow0 bx0 loc0 N st a w) (ih.1 h hR (fun e st' a' w' he hR' => ?_)) (fun a' w' ⟨st', hw, hR'⟩ => ?_)
        · cases e with
          | normal => exact hq .normal _ _ _ he hR'
          | exit id' => exact hq (.exit id') _ _ _ he hR'
          | goto l' => exact ⟨he.1, st', he.2, hR'⟩
          | ret => exact hq .ret _ _ _ he hR'
        · refine ih.2 l rest hf hw hR' (fun e st2 a2 w2 he hR2 => ?_)
          cases e with
          | normal => exact hq .normal _ _ _ he hR2
          | exit id' => exact hq (.exit id') _ _ _ he hR2
          | goto l => exact he.elim
          | ret => exact hq .ret _ _ _ he hR2
      · exact straight h
    · exact straight h
  | label l =>
    refine ⟨fun h hR hq => wpIn_label (hq _ _ _ _ h hR), fun l' r h => ?_⟩
    simp only [findLabel] at h
    split at h
    · cases h; exact snd_skip
    · cases h
  | goto l => exact ⟨fun h hR hq => wpIn_goto (hq _ _ _ _ h hR), fun l r h => by cases h⟩
  | rangeFunc => exact ⟨fun h => h.elim, fun l r h => by cases h⟩
  | refuse => exact ⟨fun h => h.elim, fun l r h => by cases h⟩


theorem wpV_sound (hm : P.follows .mixedOrders = true) {takes : List Nat} {c : Code} {Qv : VQ} {st : VSt} {Q : Exit → Act → World → Prop} {a : Act} {w : World} (h : wpV P (cc P N takes c) Qv st) (hR : R w0 S0 ow0 bx0 loc0 N st a w)
    (hq : ∀ e st a w, Qv e st → R w0 S0 ow0 bx0 loc0 N st a w → Q e.to a w) : c.wpIn (FW rd) nn P Q a w := (wpV_sound_all hm c).1 h hR hq

end

/-! ### the steps of a walk -/
section
variable {P : Program} {st : VSt} {Q : VQ}

theorem w_seq {x y : VC} (h : wpV P x (VQ.then (wpV P y Q) Q) st) : wpV P (.seq x y) Q st := h
theorem w_region {is : List VI} (h : wpI P is (Q .normal) st) : wpV P (.region is) Q st := h
theorem w_draw0 {is : List VI} (h : wpI P is (Q .normal) st) : wpV P (.draw [] is) Q st := h
theorem w_skip (h : Q .normal st) : wpV P .skip Q st := h
theorem w_scope1 {x r : VC} {l : Nat} (h : wpV P x (VQ.jump l (fun st => wpV P r (VQ.noGoto Q) st) Q) st) : wpV P (.scope1 x l r) Q st := h
theorem w_goto {l : Nat} (h : Q (.goto l) st) : wpV P (.goto l) Q st := h
theorem w_label {l : Nat} (h : Q .normal st) : wpV P (.label l) Q st := h
theorem w_ret (h : Q .ret st) : wpV P .ret Q st := h
theorem w_exit {id : Nat} (h : Q (.exit id) st) : wpV P (.exit id) Q st := h
theorem w_block {id : Nat} {x : VC} (h : wpV P x (VQ.inBlock id Q) st) : wpV P (.block id x) Q st := h
theorem w_scope {x : VC} (h : wpV P x (VQ.noGoto Q) st) : wpV P (.scope x) Q st := h
theorem w_loop {x : VC} (I : Nat → VSt → Prop) (n : Nat) (h0 : I n st) (h : ∀ n st, I n st → wpV P x (VQ.then (fun st' => ∃ n', n' < n ∧ I n' st') Q) st) : wpV P (.loop x) Q st := ⟨I, n, h0, h⟩
theorem w_nil {K : VSt → Prop} (h : K st) : wpI P [] K st := h

theorem w_cond {c : VX} {x y : VC} {b : Bool} (hb : (c.get st.env).bool? = some b) (h1 : b = true → wpV P x Q st) (h2 : b = false → wpV P y Q st) : wpV P (.cond c x y) Q st := ⟨b, hb, h1, h2⟩
theorem w_condT {c : VX} {x y : VC} (hb : (c.get st.env).bool? = some true) (h1 : wpV P x Q st) : wpV P (.cond c x y) Q st := ⟨true, hb, fun _ => h1, fun h => by cases h⟩
theorem w_condF {c : VX} {x y : VC} (hb : (c.get st.env).bool? = some false) (h2 : wpV P y Q st) : wpV P (.cond c x y) Q st := ⟨false, hb, fun h => (by cases h), fun _ => h2⟩
theorem w_condD {c : VX} {x y : VC} {p : Prop} [Decidable p] (hb : (c.get st.env).bool? = some (decide p)) (h1 : p → wpV P x Q st) (h2 : ¬ p → wpV P y Q st) : wpV P (.cond c x y) Q st := ⟨_, hb, fun h => h1 (of_decide_eq_true h), fun h => h2 (of_decide_eq_false h)⟩

/-- what holds behind a normal end, and behind the others -/
theorem q_then {K : VSt → Prop} (h : K st) : VQ.then K Q .normal st := h
theorem q_thenR {K : VSt → Prop} (h : Q .ret st) : VQ.then K Q .ret st := h
theorem q_thenE {K : VSt → Prop} {id : Nat} (h : Q (.exit id) st) : VQ.then K Q (.exit id) st := h
theorem q_blockN {id : Nat} (h : Q .normal st) : VQ.inBlock id Q .normal st := h
theorem q_blockR {id : Nat} (h : Q .ret st) : VQ.inBlock id Q .ret st := h
theorem q_blockE {id : Nat} (h : Q .normal st) : VQ.inBlock id Q (.exit id) st := by simp only [VQ.inBlock, if_true]; exact h
theorem q_blockO {id id' : Nat} (hn : (id' == id) = false) (h : Q (.exit id') st) : VQ.inBlock id Q (.exit id') st := by
  have : ¬ id' = id := by simpa using hn
  simp only [VQ.inBlock, if_neg this]; exact h

theorem q_thenG {K : VSt → Prop} {l : Nat} (h : Q (.goto l) st) : VQ.then K Q (.goto l) st := h
theorem q_blockG {id l : Nat} (h : Q (.goto l) st) : VQ.inBlock id Q (.goto l) st := h
theorem q_ngN (h : Q .normal st) : VQ.noGoto Q .normal st := h
theorem q_ngR (h : Q .ret st) : VQ.noGoto Q .ret st := h
theorem q_ngE {id : Nat} (h : Q (.exit id) st) : VQ.noGoto Q (.exit id) st := h
theorem q_jumpN {l : Nat} {J : VSt → Prop} (h : Q .normal st) : VQ.jump l J Q .normal st := h
theorem q_jumpR {l : Nat} {J : VSt → Prop} (h : Q .ret st) : VQ.jump l J Q .ret st := h
theorem q_jumpE {l id : Nat} {J : VSt → Prop} (h : Q (.exit id) st) : VQ.jump l J Q (.exit id) st := h
theorem q_jumpG {l : Nat} {J : VSt → Prop} (h : J st) : VQ.jump l J Q (.goto l) st := ⟨rfl, h⟩

theorem w_cons {i : VI} {is : List VI} {K : VSt → Prop} {o : Out} (h1 : VEff P i st o) (h2 : wpI P is K (st.app i.dst o)) : wpI P (i :: is) K st := ⟨o, h1, h2⟩
theorem w_dcons {i : VI} {is : List VI} {K : List (List Nat × List Nat) → VSt → Prop} {o : Out} (h1 : VEff P i st o) (h2 : wpD P is (fun acc st' => K ((i.keys st.env, o.boxes.map (·.1)) :: acc) st') (st.app i.dst o)) : wpD P (i :: is) K st := ⟨o, h1, h2⟩
theorem w_dnil {K : List (List Nat × List Nat) → VSt → Prop} (h : K [] st) : wpD P [] K st := h
theorem w_draw {p : Nat × Nat} {un : List (Nat × Nat)} {is : List VI} (h : wpD P is (fun acc st' => okKeys (p :: un) acc = true ∧ Q .normal st') st) : wpV P (.draw (p :: un) is) Q st := h
theorem w_nilq {is : List VI} {d : Nat} {neg : Bool} {x : VX} (h : wpI P is (fun st' => ∃ xs, (x.get st'.env).elems = some xs ∧ ∀ b, (b = true → xs = []) → Q .normal (st'.app (some d) { val := .c (.d (.v (.bool (if neg then !b else b)))) })) st) : wpV P (.nilq is d neg x) Q st := h
end

attribute [irreducible] wpV wpI wpD VQ.then VQ.inBlock VQ.noGoto VQ.jump

end Go.V

