/- The value machine, part 20: the check of a region whose order is drawn, and that it suffices. -/
import Derived.Test.YtglmbheeplndpaaV19
set_option linter.all false
set_option linter.unusedSimpArgs false
set_option linter.unusedVariables false
namespace Go.V
open Go

/-- The operations that each operation waits for. -/
def idsOf (o : Oper) : List Nat := o.after.toList.filterMap fun e => if Region.binds .any e then some e.on else none

/-- Those that an operation waits for, and those that these wait for: as the bits of a number. -/
def ancOf (acc : List Nat) (o : Oper) : Nat := (idsOf o).foldr (fun i m => (1 <<< i) ||| (acc.getD i 0 ||| m)) 0

def ancAll : List Nat → List Oper → List Nat
  | acc, [] => acc
  | acc, o :: r => ancAll (acc ++ [ancOf acc o]) r

/-- What an instruction may turn among the slots. -/
def VI.wS (i : VI) : List Nat :=
  i.dst.toList ++ (match i.op with
    | .move x true => x.slots
    | .append _ _ _ _ x _ => x.slots
    | .store _ x _ => x.slots
    | .extract x _ true => x.slots
    | _ => [])

/-- 0: looks into no box; 1: only reads; 2: may write. -/
def bk : VOp → Nat
  | .load _ _ _ false => 1
  | .load _ _ _ true | .store .. | .clear .. | .box .. | .alloc .. | .call .. | .callV .. => 2
  | _ => 0

def apartS (i j : VI) : Bool := i.wS.all (fun s => !(j.slots.contains s) && !(j.wS.contains s)) && j.wS.all (fun s => !(i.slots.contains s))

/-- The pairs that are to be looked at when it runs; none where the order may matter by the slots. -/
def pairsOf (is : List VI) (anc : List Nat) : List (Nat × Nat) → Option (List (Nat × Nat))
  | [] => some []
  | (j, k) :: r =>
    match is[j]?, is[k]?, pairsOf is anc r with
    | some i, some i', some un =>
      if (anc.getD k 0).testBit j then some un
      else if apartS i i' then (if bk i.op + bk i'.op ≤ 2 ∧ (bk i.op = 0 ∨ bk i'.op = 0 ∨ (bk i.op = 1 ∧ bk i'.op = 1)) then some un else some ((j, k) :: un))
      else none
    | _, _, _ => none

def allPairs (n : Nat) : List (Nat × Nat) := (List.range n).flatMap fun k => (List.range k).map fun j => (j, k)

/-- All edges go back. -/
def backEdges : Nat → List Oper → Bool
  | _, [] => true
  | k, o :: r => (idsOf o).all (· < k) && backEdges (k + 1) r

def cdraw (ops : List Oper) (is : List VI) : Option (List (Nat × Nat)) :=
  if backEdges 0 ops then pairsOf is (ancAll [] ops) (allPairs is.length) else none

/-- What each step looked at, and what it turned, among the boxes. -/
def accs : List VI → List Out → VSt → List (List Nat × List Nat)
  | i :: is, o :: os, st => (i.keys st.env, o.boxes.map (·.1)) :: accs is os (st.app i.dst o)
  | _, _, _ => []

def apartB (a b : List Nat × List Nat) : Bool := a.2.all (fun x => !(b.1.contains x) && !(b.2.contains x)) && b.2.all (fun x => !(a.1.contains x))

def okKeys (un : List (Nat × Nat)) (acc : List (List Nat × List Nat)) : Bool := un.all fun p => apartB (acc.getD p.1 ([], [])) (acc.getD p.2 ([], []))

section
variable {P : Program}

theorem vexec_wS {op : VOp} {st : VSt} {out : Out} (h : vexec op st = some out) (s : Nat) (hs : s ∈ out.slots.map (·.1)) :
    s ∈ (match op with | .move x true => x.slots | .append _ _ _ _ x _ => x.slots | .store _ x _ => x.slots | .extract x _ true => x.slots | _ => []) := by
  have htk : ∀ (x : VX), s ∈ (takeOf st.env x).map (·.1) → s ∈ x.slots := by
    intro x hx
    cases x with
    | slot n =>
      simp only [takeOf] at hx
      split at hx
      · simpa [VX.slots] using hx
      · simp at hx
    | lit _ => simp [takeOf] at hx
  cases op with
  | move x t =>
    simp only [vexec] at h
    split at h
    · cases h
      exact htk x hs
    · cases h
      simp at hs
  | store p x n =>
    simp only [vexec] at h
    split at h
    · split at h
      · split at h
        · split at h
          · cases h
            exact htk x hs
          · cases h
        · cases h
      · cases h
    · cases h
  | append str e sz bytes x y =>
    simp only [vexec] at h
    split at h
    · split at h
      · cases h; simp at hs
      · cases h
    · split at h
      · split at h
        · cases h
          simpa [VX.slots] using hs
        · cases h
      · cases h
    · cases h
  | extract x i t =>
    cases t with
    | false =>
      simp only [vexec, if_true] at h
      split at h
      · split at h
        · cases h
          simp at hs
        · cases h
      · cases h
    | true =>
    simp only [vexec, Bool.true_eq_false, if_false] at h
    split at h
    · split at h
      · cases h
        simp only at hs
        split at hs
        · simpa [VX.slots] using hs
        · simp at hs
      · cases h
    · cases h
  | _ =>
    simp only [vexec, fieldAddrV] at h
    repeat' (first | (cases h; done) | (obtain ⟨_, _, rfl⟩ := Option.map_eq_some_iff.1 h; simp at hs; done) | (cases h; simp at hs; done) | split at h)

theorem vexec_bk {op : VOp} {st : VSt} {out : Out} (h : vexec op st = some out) (hb : bk op ≤ 1) : out.boxes = [] := by
  cases op with
  | load p agg n t =>
    cases t with
    | true => simp [bk] at hb
    | false =>
      simp only [vexec, Bool.false_eq_true, if_false] at h
      repeat' (first | (cases h; done) | (obtain ⟨_, _, rfl⟩ := Option.map_eq_some_iff.1 h; rfl) | (cases h; rfl) | split at h)
  | store p x n => simp [bk] at hb
  | clear x z => simp [bk] at hb
  | box key n x => simp [bk] at hb
  | alloc key z => simp [bk] at hb
  | call f xs => simp [bk] at hb
  | callV f xs => simp [bk] at hb
  | _ =>
    simp only [vexec, fieldAddrV] at h
    repeat' (first | (cases h; done) | (obtain ⟨_, _, rfl⟩ := Option.map_eq_some_iff.1 h; rfl) | (cases h; rfl) | split at h)

theorem keys_bk {i : VI} {env : Nat → SV} (hb : bk i.op = 0) : i.keys env = [] := by
  unfold VI.keys
  cases h : i.op with
  | load p agg n t => cases t <;> simp [h, bk] at hb
  | store p x n => simp [h, bk] at hb
  | clear x z => simp [h, bk] at hb
  | box key n x => simp [h, bk] at hb
  | alloc key z => simp [h, bk] at hb
  | call f xs => simp [h, bk] at hb
  | callV f xs => simp [h, bk] at hb
  | _ => rfl

theorem callStep_slots {f : FuncId} {xs : List SV} {st : VSt} {d : Nat} {out : Out} (h : CallStep P f xs st d out) : out.slots = [] := by
  obtain ⟨_, ks, as, res, bx', val, _, _, _, _, _, _, _, rfl⟩ := h
  rfl

theorem veff_wS {i : VI} {st : VSt} {out : Out} (h : VEff P i st out) : ∀ s ∈ wslots (i, out), s ∈ i.wS := by
  intro s hs
  simp only [wslots, List.mem_append] at hs
  unfold VI.wS
  rcases hs with hs | hs
  · exact List.mem_append_left _ hs
  · refine List.mem_append_right _ ?_
    rcases h with ⟨_, h⟩ | ⟨_, rfl⟩
    · unfold VStep at h
      split at h
      · rw [callStep_slots h] at hs; simp at hs
      · obtain ⟨_, _, _, h⟩ := h
        rw [callStep_slots h] at hs; simp at hs
      · exact vexec_wS h s hs
    · simp at hs

theorem veff_bk {i : VI} {st : VSt} {out : Out} (h : VEff P i st out) (hb : bk i.op ≤ 1) : out.boxes = [] := by
  rcases h with ⟨_, h⟩ | ⟨_, rfl⟩
  · unfold VStep at h
    split at h
    · rename_i hop _
      rw [hop] at hb
      simp [bk] at hb
    · rename_i hop _
      rw [hop] at hb
      simp [bk] at hb
    · exact vexec_bk h hb
  · rfl

/-! ### the closure of the edges -/
/-- A list of what is done that has with each operation all that it waits for. -/
def Closed (ops : List Oper) (L : Nat → Bool) : Prop := ∀ i o, ops[i]? = some o → L i = true → ∀ j ∈ idsOf o, L j = true

theorem ancAll_len : ∀ (l : List Oper) (acc : List Nat), (ancAll acc l).length = acc.length + l.length
  | [], acc => by simp [ancAll]
  | o :: r, acc => by simp only [ancAll]; rw [ancAll_len r]; simp; omega

theorem ancAll_old : ∀ (l : List Oper) (acc : List Nat) (i : Nat), i < acc.length → (ancAll acc l).getD i 0 = acc.getD i 0
  | [], acc, i, _ => rfl
  | o :: r, acc, i, h => by
    simp only [ancAll]
    rw [ancAll_old r _ i (by simp; omega)]
    simp [List.getD, List.getElem?_append_left h]

theorem ancAll_new : ∀ (l : List Oper) (acc : List Nat) (k : Nat) (o : Oper), l[k]? = some o → ∃ acc', (∀ i, i < acc.length + k → acc'.getD i 0 = (ancAll acc l).getD i 0) ∧ (∀ i, acc.length + k ≤ i → acc'.getD i 0 = 0) ∧ (ancAll acc l).getD (acc.length + k) 0 = ancOf acc' o
  | [], acc, k, o, h => by simp at h
  | o' :: r, acc, 0, o, h => by
    cases h
    refine ⟨acc, fun i hi => ?_, fun i hi => ?_, ?_⟩
    · simp only [ancAll]
      rw [ancAll_old r _ i (by simp; omega)]
      simp [List.getD, List.getElem?_append_left (show i < acc.length by omega)]
    · simp [List.getD, List.getElem?_eq_none (show acc.length ≤ i by omega)]
    · simp only [ancAll, Nat.add_zero]
      rw [ancAll_old r _ _ (by simp)]
      simp [List.getD]
  | o' :: r, acc, k + 1, o, h => by
    obtain ⟨acc', h1, h2, h3⟩ := ancAll_new r (acc ++ [ancOf acc o']) k o (by simpa using h)
    simp only [ancAll]
    have e : (acc ++ [ancOf acc o']).length + k = acc.length + (k + 1) := by simp; omega
    rw [e] at h1 h2 h3
    exact ⟨acc', h1, h2, h3⟩

theorem ancOf_bit (acc : List Nat) : ∀ (l : List Nat) (j : Nat), (l.foldr (fun i m => (1 <<< i) ||| (acc.getD i 0 ||| m)) 0).testBit j = true → j ∈ l ∨ ∃ i ∈ l, (acc.getD i 0).testBit j = true
  | [], j, h => by simp at h
  | i :: l, j, h => by
    simp only [List.foldr_cons, Nat.testBit_or, Bool.or_eq_true] at h
    rcases h with h | h | h
    · left
      have : i = j := by
        rw [Nat.one_shiftLeft] at h
        simpa [Nat.testBit_two_pow] using h
      simp [this]
    · exact .inr ⟨i, by simp, h⟩
    · rcases ancOf_bit acc l j h with h | ⟨i', h1, h2⟩
      · exact .inl (by simp [h])
      · exact .inr ⟨i', by simp [h1], h2⟩

theorem anc_spec {ops : List Oper} {L : Nat → Bool} (hc : Closed ops L) : ∀ (k : Nat) (o : Oper), ops[k]? = some o → (∀ j ∈ idsOf o, L j = true) → ∀ j, ((ancAll [] ops).getD k 0).testBit j = true → L j = true := by
  intro k
  induction k using Nat.strongRecOn with
  | _ k ih =>
    intro o ho hp j hj
    obtain ⟨acc', h1, h2, h3⟩ := ancAll_new ops [] k o ho
    simp only [List.length_nil, Nat.zero_add] at h1 h2 h3
    rw [h3] at hj
    rcases ancOf_bit acc' _ j hj with hj | ⟨i, hi, hj⟩
    · exact hp j hj
    · by_cases hik : i < k
      · rw [h1 i hik] at hj
        have hlt := (List.getElem?_eq_some_iff.1 ho).1
        have hoi : ops[i]? = some (ops[i]'(by omega)) := List.getElem?_eq_getElem (by omega)
        exact ih i hik _ hoi (hc i _ hoi (hp i hi)) j hj
      · rw [h2 i (by omega)] at hj
        simp at hj

end

/-! ### the check suffices -/
theorem pairs_spec {is : List VI} {anc : List Nat} : ∀ {ps un : List (Nat × Nat)}, pairsOf is anc ps = some un → ∀ j k, (j, k) ∈ ps → ∃ i i', is[j]? = some i ∧ is[k]? = some i' ∧
    ((anc.getD k 0).testBit j = true ∨ (apartS i i' = true ∧ ((j, k) ∈ un ∨ bk i.op = 0 ∨ bk i'.op = 0 ∨ (bk i.op = 1 ∧ bk i'.op = 1))))
  | [], un, h, j, k, hm => by simp at hm
  | (j0, k0) :: r, un, h, j, k, hm => by
    simp only [pairsOf] at h
    split at h
    · rename_i i i' un' h1 h2 h3
      have ih := @pairs_spec is anc r un' h3 j k
      have mono : un' ⊆ un := by
        split at h
        · cases h; exact fun _ h => h
        · split at h
          · split at h
            · cases h; exact fun _ h => h
            · cases h; exact fun _ h => List.mem_cons_of_mem _ h
          · cases h
      rcases List.mem_cons.1 hm with e | hm
      · cases e
        refine ⟨i, i', h1, h2, ?_⟩
        split at h
        · rename_i hc
          left
          simpa using hc
        · split at h
          · rename_i hap
            right
            refine ⟨hap, ?_⟩
            split at h
            · rename_i hb
              right
              exact hb.2
            · cases h
              left
              simp
          · cases h
      · obtain ⟨a, b, h4, h5, h6⟩ := ih hm
        refine ⟨a, b, h4, h5, h6.imp id (fun ⟨x, y⟩ => ⟨x, y.imp (fun z => mono z) id⟩)⟩
    · cases h

theorem mem_allPairs {n j k : Nat} (h1 : j < k) (h2 : k < n) : (j, k) ∈ allPairs n := by
  simp only [allPairs, List.mem_flatMap, List.mem_range, List.mem_map]
  exact ⟨k, h2, j, h1, rfl⟩

theorem runs_get {P : Program} : ∀ (is : List VI) (os : List Out) (st : VSt), Runs P is st os → is.length = os.length
  | [], [], _, _ => rfl
  | i :: is, o :: os, st, h => by simp [runs_get is os _ h.2]
  | [], _ :: _, _, h => by cases h
  | _ :: _, [], _, h => by cases h

theorem ahead_zero (l : List (VI × Out)) (st : VSt) : ahead l st 0 = st := by
  have henv : ∀ s, (ahead l st 0).env s = st.env s := fun s => mix_none_env l 0 st (fun j p _ _ => by simp)
  have hbox : ∀ s, (ahead l st 0).box s = st.box s := fun s => mix_none_box l 0 st (fun j p _ _ => by simp)
  generalize ahead l st 0 = x at henv hbox
  cases x
  cases st
  simp only [VSt.mk.injEq]
  exact ⟨funext henv, funext hbox⟩

theorem ahead_succ (p : VI × Out) (l : List (VI × Out)) (st : VSt) (k : Nat) : ahead (p :: l) st (k + 1) = ahead l (st.app p.1.dst p.2) k := by
  have key : ∀ (l : List (VI × Out)) (m : Nat) (st : VSt), mixL (fun j => decide (j < k + 1)) (m + 1) l st = mixL (fun j => decide (j < k)) m l st := by
    intro l
    induction l with
    | nil => intros; rfl
    | cons q r ih =>
      intro m st
      simp only [mixL]
      rw [ih]
      congr 2
      simp
  unfold ahead
  simp only [mixL, Nat.zero_lt_succ, decide_true, if_true]
  exact key l 0 _

theorem runs_eff {P : Program} : ∀ (is : List VI) (os : List Out) (st : VSt), Runs P is st os → ∀ k q, (is.zip os)[k]? = some q → VEff P q.1 (ahead (is.zip os) st k) q.2
  | [], [], _, _, k, q, h => by simp at h
  | i :: is, o :: os, st, h, 0, q, hq => by
    cases hq
    rw [ahead_zero]
    exact h.1
  | i :: is, o :: os, st, h, k + 1, q, hq => by
    rw [List.zip_cons_cons, ahead_succ]
    exact runs_eff is os _ h.2 k q (by simpa using hq)
  | [], _ :: _, _, h, _, _, _ => by cases h
  | _ :: _, [], _, h, _, _, _ => by cases h

theorem accs_get : ∀ (is : List VI) (os : List Out) (st : VSt) (k : Nat) q, (is.zip os)[k]? = some q → (accs is os st).getD k ([], []) = (q.1.keys (ahead (is.zip os) st k).env, bkeys q)
  | [], _, _, k, q, h => by simp at h
  | _ :: _, [], _, k, q, h => by simp at h
  | i :: is, o :: os, st, 0, q, hq => by
    cases hq
    rw [ahead_zero]
    rfl
  | i :: is, o :: os, st, k + 1, q, hq => by
    rw [List.zip_cons_cons, ahead_succ]
    have := accs_get is os (st.app i.dst o) k q (by simpa using hq)
    simpa [accs] using this

theorem apartS_spec {i j : VI} (h : apartS i j = true) : (∀ s ∈ i.wS, s ∉ j.slots ∧ s ∉ j.wS) ∧ ∀ s ∈ j.wS, s ∉ i.slots := by
  simp only [apartS, Bool.and_eq_true, List.all_eq_true] at h
  refine ⟨fun s hs => ?_, fun s hs => ?_⟩
  · have := h.1 s hs
    simpa using this
  · have := h.2 s hs
    simpa using this

theorem apartB_spec {a b : List Nat × List Nat} (h : apartB a b = true) : (∀ s ∈ a.2, s ∉ b.1 ∧ s ∉ b.2) ∧ ∀ s ∈ b.2, s ∉ a.1 := by
  simp only [apartB, Bool.and_eq_true, List.all_eq_true] at h
  refine ⟨fun s hs => ?_, fun s hs => ?_⟩
  · have := h.1 s hs
    simpa using this
  · have := h.2 s hs
    simpa using this

theorem draw_noConf {P : Program} {ops : List Oper} {is : List VI} {un : List (Nat × Nat)} (hd : cdraw ops is = some un) {os : List Out} {st : VSt} (hr : Runs P is st os) (hk : okKeys un (accs is os st) = true) {j k : Nat} (hjk : j < k) {p q : VI × Out} (hp : (is.zip os)[j]? = some p) (hq : (is.zip os)[k]? = some q) :
    ((ancAll [] ops).getD k 0).testBit j = true ∨ NoConf p (ahead (is.zip os) st j).env q (ahead (is.zip os) st k).env := by
  unfold cdraw at hd
  split at hd
  · have hlen := runs_get is os st hr
    have hkn : k < is.length := by
      have := (List.getElem?_eq_some_iff.1 hq).1
      simp only [List.length_zip] at this
      omega
    obtain ⟨i, i', h1, h2, h3⟩ := pairs_spec hd j k (mem_allPairs hjk hkn)
    have hpi : p.1 = i := by
      rw [List.getElem?_zip_eq_some] at hp
      rw [h1] at hp
      exact (Option.some.inj hp.1).symm
    have hqi : q.1 = i' := by
      rw [List.getElem?_zip_eq_some] at hq
      rw [h2] at hq
      exact (Option.some.inj hq.1).symm
    rcases h3 with h3 | ⟨hap, hb⟩
    · exact .inl h3
    · right
      have e1 := runs_eff is os st hr j p hp
      have e2 := runs_eff is os st hr k q hq
      rw [← hpi, ← hqi] at hap hb
      obtain ⟨s1, s2⟩ := apartS_spec hap
      have w1 := veff_wS e1
      have w2 := veff_wS e2
      refine ⟨fun s hs => ⟨(s1 s (w1 s hs)).1, fun h => (s1 s (w1 s hs)).2 (w2 s h)⟩, fun s hs => s2 s (w2 s hs), ?_⟩
      rcases hb with hb | hb | hb | ⟨hb1, hb2⟩
      · have := List.all_eq_true.1 hk _ hb
        simp only [accs_get is os st j p hp, accs_get is os st k q hq] at this
        exact apartB_spec this
      · have z1 := veff_bk e1 (by omega)
        have z2 := keys_bk (env := (ahead (is.zip os) st j).env) hb
        refine ⟨fun b hb' => ?_, fun b _ => ?_⟩
        · simp [bkeys, z1] at hb'
        · rw [z2]; simp
      · have z1 := veff_bk e2 (by omega)
        have z2 := keys_bk (env := (ahead (is.zip os) st k).env) hb
        refine ⟨fun b _ => ⟨?_, ?_⟩, fun b hb' => ?_⟩
        · rw [z2]; simp
        · simp [bkeys, z1]
        · simp [bkeys, z1] at hb'
      · have z1 := veff_bk e1 (by omega)
        have z2 := veff_bk e2 (by omega)
        refine ⟨fun b hb' => ?_, fun b hb' => ?_⟩
        · simp [bkeys, z1] at hb'
        · simp [bkeys, z2] at hb'
  · cases hd

end Go.V

