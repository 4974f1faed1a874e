/- The value machine, part 16: contracts, and calls by contract. -/
import Derived.Test.YtglmbheeplndpaaV15
set_option linter.all false
set_option linter.unusedSimpArgs false
set_option linter.unusedVariables false
namespace Go.V
open Go

/-- The contract of a Go function: called with what stands for the arguments, and with boxes that are lent, it returns what stands for the result, and the boxes hold what they then hold. -/
def PC (P : Program) (f : FuncId) (args : List SV) (bx : Tab) (res : SV) (bx' : Tab) : Prop :=
  ∀ (w : World) (S : Stab) (loc : Nat → Nat) (ow : Nat → Option Pl) (vals : Array Value), vals.size = args.length →
    HH S loc ow w args.length (fun i => args.getD i .undef) (fun i => vals.getD i undef) bx →
    Calls P f vals w fun e w' => ∃ S' loc' ow' v, e = .returned v ∧ Kept w S ow w' S' ow' ∧ HH S' loc' ow' w' 1 (fun _ => res) (fun _ => v) bx' ∧ ∀ k, (bx k).2.isSome = true → loc' k = loc k

def KC.isD : KC → Bool
  | .d _ => true
  | .ptr .. => false

def noPtr : C → Bool
  | .ptr .. => false
  | .msl .. => false
  | .fn _ caps => caps.all KC.isD
  | _ => true

def argKC (ks : List Nat) (box : Tab) : KC → Option KC
  | .d x => some (.d x)
  | .ptr k ver off => if (box k).1 = ver ∧ ks.idxOf k < ks.length then some (.ptr (ks.idxOf k) 0 off) else none

def argKCs (ks : List Nat) (box : Tab) : List KC → Option (List KC)
  | [] => some []
  | x :: r => match argKC ks box x, argKCs ks box r with | some y, some ys => some (y :: ys) | _, _ => none

/-- An argument as the callee sees it: data as data, a pointer to a lent box by the box's place in the list. -/
def argOf (ks : List Nat) (box : Tab) : SV → Option SV
  | .c (.ptr k ver off) => if (box k).1 = ver ∧ ks.idxOf k < ks.length then some (.c (.ptr (ks.idxOf k) 0 off)) else none
  | .c (.msl k ver off n) => if (box k).1 = ver ∧ ks.idxOf k < ks.length then some (.c (.msl (ks.idxOf k) 0 off n)) else none
  | .c (.cptr xs) => some (.c (.cptr xs))
  | .c (.fn f caps) => (argKCs ks box caps).map fun cs => .c (.fn f cs)
  | .c c => c.toD.map fun x => .c (.d x)
  | .agg xs => (toDs xs).map fun ds => .agg (ds.map .d)
  | .tup _ => none

def argsOf (ks : List Nat) (box : Tab) : List SV → Option (List SV)
  | [] => some []
  | x :: r => match argOf ks box x, argsOf ks box r with | some y, some ys => some (y :: ys) | _, _ => none

/-- The same, but that a nil slice goes as one. -/
def argK (ks : List Nat) (box : Tab) : SV → Option SV
  | .c .nilsl => some (.c .nilsl)
  | x => argOf ks box x

def argsK (ks : List Nat) (box : Tab) : List SV → Option (List SV)
  | [] => some []
  | x :: r => match argK ks box x, argsK ks box r with | some y, some ys => some (y :: ys) | _, _ => none

def ArgsTo (ks : List Nat) (box : Tab) (xs ys : List SV) : Prop := argsOf ks box xs = some ys ∨ argsK ks box xs = some ys

/-- The boxes that are lent. -/
def lent (ks : List Nat) (box : Tab) : Tab := fun i => match ks[i]? with | some k => (0, (box k).2) | none => (0, none)

def lentOk (box : Tab) (k : Nat) : Bool := match (box k).2 with | some cs => cs.all noPtr | none => false

/-- A callee's box as the caller sees it: its key and version. -/
def resP (ks : List Nat) (box : Tab) (key : Nat) (bx' : Tab) (i ver : Nat) : Option (Nat × Nat) :=
  if (bx' i).1 = ver then
    match ks[i]? with
    | some k => some (k, (box k).1)
    | none => if i = ks.length ∧ (bx' i).2.isSome = true then some (key, (box key).1 + 1) else none
  else none

/-- A result's cell as the caller sees it. -/
def resC (ks : List Nat) (box : Tab) (key : Nat) (bx' : Tab) : C → Option C
  | .ptr i ver off => (resP ks box key bx' i ver).map fun x => .ptr x.1 x.2 off
  | .msl i ver off n => (resP ks box key bx' i ver).map fun x => .msl x.1 x.2 off n
  | .fn f caps => if caps.all KC.isD then some (.fn f caps) else none
  | c => some c

def resV1 (ks : List Nat) (box : Tab) (key : Nat) (bx' : Tab) : SV → Option SV
  | .c c => (resC ks box key bx' c).map .c
  | .agg xs => if xs.all noPtr then some (.agg xs) else none
  | .tup xs => some (.tup xs)

def resVs (ks : List Nat) (box : Tab) (key : Nat) (bx' : Tab) : List SV → Option (List SV)
  | [] => some []
  | x :: r => match resV1 ks box key bx' x, resVs ks box key bx' r with | some y, some ys => some (y :: ys) | _, _ => none

def resV (ks : List Nat) (box : Tab) (key : Nat) (bx' : Tab) : SV → Option SV
  | .tup xs => (resVs ks box key bx' xs).map .tup
  | x => resV1 ks box key bx' x

def backs (ks : List Nat) (box : Tab) (bx' : Tab) : Nat → List Nat → List (Nat × (Nat × Option (List C)))
  | _, [] => []
  | i, k :: r => (k, ((box k).1, (bx' i).2)) :: backs ks box bx' (i + 1) r

def newBox (ks : List Nat) (box : Tab) (key : Nat) (bx' : Tab) : List (Nat × (Nat × Option (List C))) :=
  match (bx' ks.length).2 with
  | some cs => [(key, ((box key).1 + 1, some cs))]
  | none => []

/-- What a call gives. -/
def callOut (ks : List Nat) (box : Tab) (key : Nat) (val : SV) (bx' : Tab) : Out :=
  { val := val, boxes := backs ks box bx' 0 ks ++ newBox ks box key bx' }

/-- The boxes that come back hold no pointers. -/
def backOk (bx' : Tab) (i : Nat) : Bool := match (bx' i).2 with | some cs => cs.all noPtr | none => true

theorem updAll_append {α : Type} (f : Nat → α) (l l' : List (Nat × α)) : updAll f (l ++ l') = updAll (updAll f l) l' := by
  induction l generalizing f with
  | nil => rfl
  | cons p r ih => exact ih _

theorem updAll_backs (ks : List Nat) (box : Tab) (bx' : Tab) : ∀ (r : List Nat) (i : Nat) (f : Tab) (k : Nat), r.Nodup → updAll f (backs ks box bx' i r) k = if k ∈ r then ((box k).1, (bx' (i + r.idxOf k)).2) else f k
  | [], i, f, k, _ => by simp [backs, updAll]
  | k0 :: r, i, f, k, hn => by
    obtain ⟨h1, h2⟩ := List.nodup_cons.1 hn
    simp only [backs, updAll]
    rw [updAll_backs ks box bx' r (i + 1) _ k h2]
    by_cases hk : k = k0
    · subst hk
      rw [if_neg h1, if_pos (by simp)]
      simp [upd]
    · by_cases hr : k ∈ r
      · rw [if_pos hr, if_pos (by simp [hr])]
        have hix : (k0 :: r).idxOf k = r.idxOf k + 1 := by
          have hb : (k0 == k) = false := by simpa using fun e => hk (Eq.symm e)
          simp [List.idxOf_cons, hb]
        rw [hix]
        congr 3
        omega
      · rw [if_neg hr, if_neg (by simp [hr, hk])]
        simp only [upd]
        rw [if_neg hk]

section
variable {P : Program} {S : Stab} {loc : Nat → Nat} {ow : Nat → Option Pl} {w : World} {N : Nat} {st : VSt} {vals : Nat → Value}

/-- The lent part of who owns what. -/
def owLent (ks : List Nat) (ow : Nat → Option Pl) : Nat → Option Pl := fun b =>
  match ow b with
  | some (.box k) => if k ∈ ks then some (.box (ks.idxOf k)) else none
  | some (.bcell k j) => if k ∈ ks then some (.bcell (ks.idxOf k) j) else none
  | _ => none

/-- The callee's places, as the caller names them. -/
def trPl (ks : List Nat) (key d : Nat) : Pl → Option Pl
  | .box i => match ks[i]? with | some k => some (.box k) | none => if i = ks.length then some (.box key) else none
  | .bcell i j => match ks[i]? with | some k => some (.bcell k j) | none => if i = ks.length then some (.bcell key j) else none
  | .slot 0 j => some (.slot d j)
  | .slot _ _ => none

open Classical in
noncomputable def owBack (ks : List Nat) (key d : Nat) (ow : Nat → Option Pl) (n : Nat) (ow' : Nat → Option Pl) : Nat → Option Pl := fun b =>
  if b < n ∧ owLent ks ow b = none then ow b else (ow' b).bind (trPl ks key d)

theorem RepC.tr {S' : Stab} {loc' locN : Nat → Nat} {bx' boxN : Tab} {ow' owN : Nat → Option Pl} {w' : World} {p q : Pl} {c : C} {v : Value} (hn : noPtr c = true) (ht : ∀ b, ow' b = some p → owN b = some q) (h : RepC S' loc' bx' ow' w' p c v) : RepC S' locN boxN owN w' q c v := by
  cases c with
  | d x => exact h
  | nilsl => exact h
  | osl e sz xs =>
    refine ⟨h.1, h.2.1, ?_⟩
    rcases h.2.2 with ho | ⟨g, c, cur, rfl, hg, hh, h1, h2, h3, h4⟩
    · exact .inl ho
    · exact .inr ⟨g, c, cur, rfl, ht g hg, hh, h1, h2, h3, h4⟩
  | ptr k ver off => simp [noPtr] at hn
  | cptr xs => exact h
  | msl k ver off n => simp [noPtr] at hn
  | fn f caps =>
    obtain ⟨vs, r1, r2, r3⟩ := h
    refine ⟨vs, r1, r2, fun j k hk => ?_⟩
    obtain ⟨u, hu, hr⟩ := r3 j k hk
    have hd := List.all_eq_true.1 hn k (List.mem_of_getElem? hk)
    cases k with
    | d x => exact ⟨u, hu, hr⟩
    | ptr k ver off => cases hd

theorem argKCs_get {ks : List Nat} {box : Tab} : ∀ {xs ys : List KC}, argKCs ks box xs = some ys → ys.length = xs.length ∧ ∀ (m : Nat) y, ys[m]? = some y → ∃ x, xs[m]? = some x ∧ argKC ks box x = some y
  | [], ys, h => by cases h; exact ⟨rfl, fun m x hx => by simp at hx⟩
  | x :: xs, ys, h => by
    simp only [argKCs] at h
    split at h
    · rename_i y ys' hy hys
      cases h
      obtain ⟨h1, h2⟩ := argKCs_get hys
      refine ⟨by simp [h1], fun m z hz => ?_⟩
      cases m with
      | zero => cases hz; exact ⟨x, rfl, hy⟩
      | succ m => exact h2 m z (by simpa using hz)
    · cases h

theorem idx_getD {ks : List Nat} {k : Nat} (h : ks.idxOf k < ks.length) : ks.getD (ks.idxOf k) 0 = k := by
  simp only [List.getD, List.getElem?_eq_getElem h]
  simp

theorem argKC_rep {ks : List Nat} {x y : KC} {v : Value} (hr : RepK S loc st.box w x v) (ha : argKC ks st.box x = some y) : RepK S (fun j => loc (ks.getD j 0)) (lent ks st.box) w y v := by
  cases x with
  | d x => cases ha; exact hr
  | ptr k ver off =>
    simp only [argKC] at ha
    split at ha
    · rename_i hc
      cases ha
      obtain ⟨a, r1, r2, r3⟩ := hr
      refine ⟨a, r1, Nat.zero_le _, fun _ => ?_⟩
      rw [r3 hc.1]
      simp only
      rw [idx_getD hc.2]
    · cases ha

theorem argOf_rep {ks : List Nat} {i i' : Nat} {x y : SV} {v : Value} (hr : RepV S loc st.box ow w i x v) (ha : argOf ks st.box x = some y) :
    RepV S (fun j => loc (ks.getD j 0)) (lent ks st.box) (owLent ks ow) w i' y v := by
  unfold argOf at ha
  split at ha
  · rename_i k ver off
    split at ha
    · rename_i hc
      cases ha
      obtain ⟨a, r1, r2, r3⟩ := hr.cinv
      refine ⟨a, r1, Nat.zero_le _, fun _ => ?_⟩
      rw [r3 hc.1]
      simp only
      have : ks.getD (ks.idxOf k) 0 = k := by
        simp only [List.getD, List.getElem?_eq_getElem hc.2]
        simp
      rw [this]
    · cases ha
  · rename_i k ver off n
    split at ha
    · rename_i hc
      cases ha
      obtain ⟨a, c, r1, r2, r3, r4, r5⟩ := hr.cinv
      refine ⟨a, c, r1, r2, r3, Nat.zero_le _, fun h0 => ?_⟩
      obtain ⟨b, hb, hb2⟩ := r5 h0
      refine ⟨b, hb, fun _ => ?_⟩
      rw [hb2 hc.1]
      simp only
      rw [idx_getD hc.2]
    · cases ha
  · cases ha
    exact hr.cinv
  · rename_i f caps
    obtain ⟨cs, hcs, rfl⟩ := Option.map_eq_some_iff.1 ha
    obtain ⟨vs, r1, r2, r3⟩ := hr.cinv
    obtain ⟨l1, l2⟩ := argKCs_get hcs
    refine ⟨vs, r1, by rw [r2, l1], fun j k hk => ?_⟩
    obtain ⟨x, hx, hxy⟩ := l2 j k hk
    obtain ⟨u, hu, hru⟩ := r3 j x hx
    exact ⟨u, hu, argKC_rep hru hxy⟩
  · obtain ⟨d, hd, rfl⟩ := Option.map_eq_some_iff.1 ha
    exact hr.cinv.toD hd
  · rename_i xs
    obtain ⟨ds, hds, rfl⟩ := Option.map_eq_some_iff.1 ha
    obtain ⟨vs, rfl, hs, hm⟩ := (show RepV1 S loc st.box ow w i 0 (.agg xs) v from hr)
    obtain ⟨d1, d2⟩ := toDs_get hds
    refine ⟨vs, rfl, by simp [hs, d1], fun m c hc => ?_⟩
    rw [List.getElem?_map] at hc
    obtain ⟨y, hy, rfl⟩ := Option.map_eq_some_iff.1 hc
    obtain ⟨c0, h0, h1⟩ := d2 m y hy
    obtain ⟨_, u, hu, hru⟩ := hm m c0 h0
    exact ⟨rfl, u, hu, hru.toD h1⟩
  · cases ha

theorem argsOf_get {ks : List Nat} {box : Tab} : ∀ {xs ys : List SV}, argsOf ks box xs = some ys → ys.length = xs.length ∧ ∀ (m : Nat) x, xs[m]? = some x → ∃ y, ys[m]? = some y ∧ argOf ks box x = some y
  | [], ys, h => by cases h; exact ⟨rfl, fun m x hx => by simp at hx⟩
  | x :: xs, ys, h => by
    simp only [argsOf] at h
    split at h
    · rename_i y ys' hy hys
      cases h
      obtain ⟨h1, h2⟩ := argsOf_get hys
      refine ⟨by simp [h1], fun m z hz => ?_⟩
      cases m with
      | zero => cases hz; exact ⟨y, rfl, hy⟩
      | succ m => exact h2 m z (by simpa using hz)
    · cases h

theorem argK_rep {ks : List Nat} {i i' : Nat} {x y : SV} {v : Value} (hr : RepV S loc st.box ow w i x v) (ha : argK ks st.box x = some y) :
    RepV S (fun j => loc (ks.getD j 0)) (lent ks st.box) (owLent ks ow) w i' y v := by
  unfold argK at ha
  split at ha
  · cases ha
    have hc : RepC S loc st.box ow w (.slot i 0) .nilsl v := hr.cinv
    exact (show RepC S (fun j => loc (ks.getD j 0)) (lent ks st.box) (owLent ks ow) w (.slot i' 0) .nilsl v from hc)
  · exact argOf_rep hr ha

theorem argsK_get {ks : List Nat} {box : Tab} : ∀ {xs ys : List SV}, argsK ks box xs = some ys → ys.length = xs.length ∧ ∀ (m : Nat) x, xs[m]? = some x → ∃ y, ys[m]? = some y ∧ argK ks box x = some y
  | [], ys, h => by cases h; exact ⟨rfl, fun m x hx => by simp at hx⟩
  | x :: xs, ys, h => by
    simp only [argsK] at h
    split at h
    · rename_i y ys' hy hys
      cases h
      obtain ⟨h1, h2⟩ := argsK_get hys
      refine ⟨by simp [h1], fun m z hz => ?_⟩
      cases m with
      | zero => cases hz; exact ⟨y, rfl, hy⟩
      | succ m => exact h2 m z (by simpa using hz)
    · cases h

theorem ArgsTo.get {ks : List Nat} {box : Tab} {xs ys : List SV} (h : ArgsTo ks box xs ys) : ys.length = xs.length ∧ ∀ (m : Nat) x, xs[m]? = some x → ∃ y, ys[m]? = some y ∧ (argOf ks box x = some y ∨ argK ks box x = some y) := by
  rcases h with h | h
  · obtain ⟨h1, h2⟩ := argsOf_get h
    exact ⟨h1, fun m x hx => by obtain ⟨y, a, b⟩ := h2 m x hx; exact ⟨y, a, .inl b⟩⟩
  · obtain ⟨h1, h2⟩ := argsK_get h
    exact ⟨h1, fun m x hx => by obtain ⟨y, a, b⟩ := h2 m x hx; exact ⟨y, a, .inr b⟩⟩

/-- The callee's own sight of what it is lent. -/
theorem HH.lent (h : HH S loc ow w N st.env vals st.box) {ks : List Nat} (hnd : ks.Nodup) (hok : ∀ k ∈ ks, lentOk st.box k = true) {as : List SV} {us : Array Value} (hargs : ∀ i, i < as.length → RepV S (fun j => loc (ks.getD j 0)) (lent ks st.box) (owLent ks ow) w i (as.getD i .undef) (us.getD i undef)) :
    HH S (fun j => loc (ks.getD j 0)) (owLent ks ow) w as.length (fun i => as.getD i .undef) (fun i => us.getD i undef) (V.lent ks st.box) where
  sS := h.sS
  so b p hb := by
    unfold owLent at hb
    split at hb
    · exact h.so b _ ‹_›
    · exact h.so b _ ‹_›
    · cases hb
  env := hargs
  bx i cs hk := by
    unfold V.lent at hk
    split at hk
    · rename_i k hki
      have hkm : k ∈ ks := List.mem_of_getElem? hki
      have hil := (List.getElem?_eq_some_iff.1 hki).1
      have hidx : ks.idxOf k = i := by
        have hkk : ks[i] = k := (List.getElem?_eq_some_iff.1 hki).2
        rw [← hkk]
        exact List.Nodup.idxOf_getElem hnd i hil
      have hget : ks.getD i 0 = k := by simp [List.getD, hki]
      obtain ⟨t, vs, b1, b2, b3, b4, b5⟩ := h.boxAt hk
      simp only [hget]
      refine ⟨t, vs, by simp only [owLent, b1, if_pos hkm, hidx], b2, b3, b4, fun j c hc => ?_⟩
      obtain ⟨u, hu, hr⟩ := b5 j c hc
      have hno : noPtr c = true := by
        have := hok k hkm
        unfold lentOk at this
        rw [hk] at this
        exact (List.all_eq_true.1 this) c (List.mem_of_getElem? hc)
      exact ⟨u, hu, hr.tr hno (fun b hb => by simp only [owLent, hb, if_pos hkm, hidx])⟩
    · cases hk

theorem call_sound (h : HH S loc ow w N st.env vals st.box) {f : FuncId} {ks : List Nat} (hnd : ks.Nodup) (hok : ∀ k ∈ ks, lentOk st.box k = true) {xs as : List SV} {us : Array Value} (hus : us.size = xs.length)
    (hrep : ∀ i x, xs[i]? = some x → ∃ j, RepV S loc st.box ow w j x (us.getD i undef)) (has : ArgsTo ks st.box xs as) {res : SV} {bx' : Tab} (pc : PC P f as (V.lent ks st.box) res bx')
    {key d : Nat} (hkey : key ∉ ks) {val : SV} (hval : resV ks st.box key bx' res = some val) (hback : ∀ i, i ≤ ks.length → backOk bx' i = true) :
    Calls P f us w fun e w' => ∃ v S' loc' ow', e = .returned v ∧ Kept w S ow w' S' ow' ∧
      (∀ k, (st.box k).1 ≤ ((st.app (some d) (callOut ks st.box key val bx')).box k).1 ∧ (((st.app (some d) (callOut ks st.box key val bx')).box k).1 = (st.box k).1 → loc' k = loc k)) ∧
      ∀ vals' : Nat → Value, (∀ i, i < N → vals' i = if some d = some i then v else vals i) →
      HH S' loc' ow' w' N (st.app (some d) (callOut ks st.box key val bx')).env vals' (st.app (some d) (callOut ks st.box key val bx')).box := by
  obtain ⟨hal, hag⟩ := has.get
  have hH := h.lent hnd hok (as := as) (us := us) (fun i hi => by
    have hix : i < xs.length := by omega
    obtain ⟨j, hj⟩ := hrep i _ (List.getElem?_eq_getElem hix)
    obtain ⟨y, hy, hay⟩ := hag i _ (List.getElem?_eq_getElem hix)
    have : as.getD i .undef = y := by simp [List.getD, hy]
    rw [this]
    exact hay.elim (argOf_rep hj) (argK_rep hj))
  refine (pc w S _ _ us (by omega) hH).mono ?_
  rintro e w' ⟨S', loc', ow', v, rfl, hK, hR, hloc⟩
  -- who owns what, as the caller names it
  have htr : ∀ b p q, ow' b = some p → trPl ks key d p = some q → owBack ks key d ow w.heap.size ow' b = some q := by
    intro b p q hb hq
    unfold owBack
    rw [if_neg]
    · rw [hb]; exact hq
    · rintro ⟨h1, h2⟩
      have := (hK.keep b h1 h2).2.1
      rw [hb] at this
      cases this
  have hkeep : ∀ b p, ow b = some p → (∀ k ∈ ks, p ≠ .box k ∧ ∀ j, p ≠ .bcell k j) → b < w.heap.size ∧ owLent ks ow b = none := by
    intro b p hb hp
    refine ⟨h.so b p hb, ?_⟩
    unfold owLent
    rw [hb]
    cases p with
    | slot i j => rfl
    | box k => simp only; rw [if_neg (fun hk => (hp k hk).1 rfl)]
    | bcell k j => simp only; rw [if_neg (fun hk => (hp k hk).2 j rfl)]
  have hK2 : Kept w S ow w' S' (owBack ks key d ow w.heap.size ow') := by
    refine ⟨hK.os, hK.tape, hK.output, hK.size, fun b hb ho => ?_, hK.stab⟩
    have hl : owLent ks ow b = none := by simp [owLent, ho]
    obtain ⟨k1, k2, k3⟩ := hK.keep b hb hl
    exact ⟨k1, by unfold owBack; rw [if_pos ⟨hb, hl⟩]; exact ho, k3⟩
  let boxN : Tab := updAll st.box (callOut ks st.box key val bx').boxes
  have hboxN : ∀ k, boxN k = if k = key ∧ (bx' ks.length).2.isSome = true then ((st.box key).1 + 1, (bx' ks.length).2) else if k ∈ ks then ((st.box k).1, (bx' (ks.idxOf k)).2) else st.box k := by
    intro k
    show updAll st.box (backs ks st.box bx' 0 ks ++ newBox ks st.box key bx') k = _
    rw [updAll_append]
    unfold newBox
    split
    · rename_i cs hcs
      simp only [updAll, upd]
      by_cases hk : k = key
      · simp [hk, hcs]
      · rw [if_neg hk, if_neg (fun e => hk e.1), updAll_backs ks st.box bx' ks 0 st.box k hnd, Nat.zero_add]
    · rename_i hcs
      simp only [updAll]
      rw [if_neg (by rw [hcs]; simp), updAll_backs ks st.box bx' ks 0 st.box k hnd, Nat.zero_add]
  let locN : Nat → Nat := fun k => if k = key ∧ (bx' ks.length).2.isSome = true then loc' ks.length else loc k
  have hidx : ∀ (i k : Nat), ks[i]? = some k → k ∈ ks ∧ ks.idxOf k = i := by
    intro i k hki
    have hil := (List.getElem?_eq_some_iff.1 hki).1
    have hkk : ks[i] = k := (List.getElem?_eq_some_iff.1 hki).2
    exact ⟨List.mem_of_getElem? hki, by rw [← hkk]; exact List.Nodup.idxOf_getElem hnd i hil⟩
  have hlocks : ∀ k ∈ ks, loc' (ks.idxOf k) = loc k := by
    intro k hk
    have hlt := List.idxOf_lt_length_of_mem hk
    have := hloc (ks.idxOf k) (by
      unfold V.lent
      rw [List.getElem?_eq_getElem hlt]
      simp only [List.getElem_idxOf]
      have := hok k hk
      unfold lentOk at this
      split at this
      · rename_i cs hcs; simp [hcs]
      · cases this)
    rw [this]
    congr 1
    simp [List.getD, List.getElem?_eq_getElem hlt]
  have hE : Ext (fun p => (∃ k, k ∈ ks ∧ (p = .box k ∨ ∃ j, p = .bcell k j)) ∨ ((bx' ks.length).2.isSome = true ∧ (p = .box key ∨ ∃ j, p = .bcell key j)) ∨ ∃ j, p = .slot d j) S loc st.box ow w S' locN boxN (owBack ks key d ow w.heap.size ow') w' := by
    refine ⟨hK.stab, fun b p hb hp => ?_, fun k => ?_, fun k hk => ?_⟩
    · simp only [not_or, not_exists, not_and] at hp
      obtain ⟨l1, l2⟩ := hkeep b p hb (fun k hk => ⟨fun e => (hp.1 k hk).1 e, fun j e => (hp.1 k hk).2 j e⟩)
      obtain ⟨k1, k2, k3⟩ := hK.keep b l1 l2
      exact ⟨by unfold owBack; rw [if_pos ⟨l1, l2⟩]; exact hb, k1, k3⟩
    · rw [hboxN]
      split
      · rename_i hc; rw [hc.1]; simp
      · split
        · exact Nat.le_refl _
        · exact Nat.le_refl _
    · rw [hboxN] at hk
      show (if k = key ∧ (bx' ks.length).2.isSome = true then loc' ks.length else loc k) = loc k
      split at hk
      · rename_i hc; rw [hc.1] at hk; simp at hk
      · rename_i hc; rw [if_neg hc]
  -- a cell of the callee's as the caller sees it
  have hcell : ∀ {p q : Pl} {c : C} {u : Value}, noPtr c = true → trPl ks key d p = some q → RepC S' loc' bx' ow' w' p c u → RepC S' locN boxN (owBack ks key d ow w.heap.size ow') w' q c u :=
    fun hn hq hr => hr.tr hn (fun b hb => htr b _ _ hb hq)
  have hresP : ∀ {i ver k2 v2 : Nat}, resP ks st.box key bx' i ver = some (k2, v2) → (bx' i).1 = ver ∧ v2 ≤ (boxN k2).1 ∧ locN k2 = loc' i := by
    intro i ver k2 v2 hc'
    unfold resP at hc'
    split at hc'
    · rename_i hver
      refine ⟨hver, ?_⟩
      split at hc'
      · rename_i k hki
        cases hc'
        obtain ⟨hkm, hik⟩ := hidx i k2 hki
        have hkn : ¬ (k2 = key ∧ (bx' ks.length).2.isSome = true) := fun e => hkey (e.1 ▸ hkm)
        have hb : (boxN k2).1 = (st.box k2).1 := by rw [hboxN, if_neg hkn, if_pos hkm]
        refine ⟨by rw [hb]; exact Nat.le_refl _, ?_⟩
        show (if k2 = key ∧ (bx' ks.length).2.isSome = true then loc' ks.length else loc k2) = _
        rw [if_neg hkn, ← hlocks k2 hkm, hik]
      · split at hc'
        · rename_i hi
          cases hc'
          obtain ⟨rfl, hsome⟩ := hi
          have hb : boxN key = ((st.box key).1 + 1, (bx' ks.length).2) := by rw [hboxN, if_pos ⟨rfl, hsome⟩]
          refine ⟨by rw [hb]; exact Nat.le_refl _, ?_⟩
          show (if key = key ∧ (bx' ks.length).2.isSome = true then loc' ks.length else loc key) = _
          rw [if_pos ⟨rfl, hsome⟩]
        · cases hc'
    · cases hc'
  have hres1 : ∀ (j : Nat) (x y : SV) (u : Value), resV1 ks st.box key bx' x = some y → RepV1 S' loc' bx' ow' w' 0 j x u → RepV1 S' locN boxN (owBack ks key d ow w.heap.size ow') w' d j y u := by
    intro j x y u hy hr
    cases x with
    | c c =>
      simp only [resV1] at hy
      obtain ⟨c', hc', rfl⟩ := Option.map_eq_some_iff.1 hy
      cases c with
      | ptr i ver off =>
        obtain ⟨⟨k2, v2⟩, hP, rfl⟩ := Option.map_eq_some_iff.1 hc'
        obtain ⟨p1, p2, p3⟩ := hresP hP
        obtain ⟨a, r1, r2, r3⟩ := (show RepC S' loc' bx' ow' w' (.slot 0 j) (.ptr i ver off) u from hr)
        exact ⟨a, r1, p2, fun _ => by rw [r3 p1, p3]⟩
      | msl i ver off n =>
        obtain ⟨⟨k2, v2⟩, hP, rfl⟩ := Option.map_eq_some_iff.1 hc'
        obtain ⟨p1, p2, p3⟩ := hresP hP
        obtain ⟨a, c, r1, r2, r3, r4, r5⟩ := (show RepC S' loc' bx' ow' w' (.slot 0 j) (.msl i ver off n) u from hr)
        refine ⟨a, c, r1, r2, r3, p2, fun h0 => ?_⟩
        obtain ⟨b, hb, hb2⟩ := r5 h0
        exact ⟨b, hb, fun _ => by rw [hb2 p1, p3]⟩
      | fn f caps =>
        simp only [resC] at hc'
        split at hc'
        · rename_i hall
          cases hc'
          exact hcell (p := .slot 0 j) (c := .fn f caps) hall rfl hr
        · cases hc'
      | d x => cases hc'; exact hcell (p := .slot 0 j) (c := .d x) rfl rfl hr
      | nilsl => cases hc'; exact hcell (p := .slot 0 j) (c := .nilsl) rfl rfl hr
      | osl e sz xs => cases hc'; exact hcell (p := .slot 0 j) (c := .osl e sz xs) rfl rfl hr
      | cptr xs => cases hc'; exact hcell (p := .slot 0 j) (c := .cptr xs) rfl rfl hr
    | agg xs =>
      simp only [resV1] at hy
      split at hy
      · rename_i hall
        cases hy
        obtain ⟨vs, rfl, hs, hm⟩ := hr
        exact ⟨vs, rfl, hs, fun m c hc => by
          obtain ⟨h1, u, hu, hru⟩ := hm m c hc
          exact ⟨h1, u, hu, hcell (p := .slot 0 j) (List.all_eq_true.1 hall c (List.mem_of_getElem? hc)) rfl hru⟩⟩
      · cases hy
    | tup xs =>
      cases hy
      exact hr
  have hresV : RepV S' locN boxN (owBack ks key d ow w.heap.size ow') w' d val v := by
    have hr := hR.env 0 (by omega)
    cases res with
    | c c =>
      have := hres1 0 (.c c) val v hval hr
      cases val with
      | c _ => exact this
      | agg _ => exact this
      | tup ys =>
        simp only [resV, resV1] at hval
        obtain ⟨_, _, h2⟩ := Option.map_eq_some_iff.1 hval
        cases h2
    | agg xs =>
      have := hres1 0 (.agg xs) val v hval hr
      cases val with
      | c _ => exact this
      | agg _ => exact this
      | tup ys =>
        simp only [resV, resV1] at hval
        split at hval <;> cases hval
    | tup xs =>
      simp only [resV] at hval
      obtain ⟨ys, hys, rfl⟩ := Option.map_eq_some_iff.1 hval
      obtain ⟨vs, rfl, hs, hm⟩ := (show ∃ vs : Array Value, v = .tuple vs ∧ vs.size = xs.length ∧ ∀ (m : Nat) (x : SV), xs[m]? = some x → ∃ u, vs[m]? = some u ∧ RepV1 S' loc' bx' ow' w' 0 m x u from hr)
      have hys' : ∀ {xs ys : List SV}, resVs ks st.box key bx' xs = some ys → ys.length = xs.length ∧ ∀ (m : Nat) y, ys[m]? = some y → ∃ x, xs[m]? = some x ∧ resV1 ks st.box key bx' x = some y := by
        intro xs
        induction xs with
        | nil => intro ys h; cases h; exact ⟨rfl, fun m y hy => by simp at hy⟩
        | cons x xs ih =>
          intro ys h
          simp only [resVs] at h
          split at h
          · rename_i y ys' hy hys
            cases h
            obtain ⟨h1, h2⟩ := ih hys
            refine ⟨by simp [h1], fun m z hz => ?_⟩
            cases m with
            | zero => cases hz; exact ⟨x, rfl, hy⟩
            | succ m => exact h2 m z (by simpa using hz)
          · cases h
      obtain ⟨l1, l2⟩ := hys' hys
      refine ⟨vs, rfl, by omega, fun m y hy => ?_⟩
      obtain ⟨x, hx, hxy⟩ := l2 m y hy
      obtain ⟨u, hu, hru⟩ := hm m x hx
      exact ⟨u, hu, hres1 m x y u hxy hru⟩
  refine ⟨v, S', locN, owBack ks key d ow w.heap.size ow', rfl, hK2, fun k => ⟨hE.ver k, hE.loc k⟩, fun vals' hv => ?_⟩
  refine h.step hE hR.sS (fun b p hb => ?_) (fun i hi => ?_) (fun k cs hk => ?_)
  · unfold owBack at hb
    split at hb
    · have := h.so b p hb
      have := hK.size
      omega
    · obtain ⟨p', hp', _⟩ := Option.bind_eq_some_iff.1 hb
      exact hR.so b p' hp'
  · by_cases hdi : d = i
    · right
      subst hdi
      rw [hv d hi, if_pos rfl]
      simp only [VSt.app, updDst, upd, callOut, if_true]
      exact hresV
    · left
      refine ⟨?_, by rw [hv i hi, if_neg (by simpa using hdi)], fun j => ?_⟩
      · simp only [VSt.app, updDst, updAll, upd, callOut]
        rw [if_neg (fun e => hdi e.symm)]
      · simp only [not_or, not_exists, not_and]
        exact ⟨fun k _ => ⟨by simp, by simp⟩, fun _ => ⟨by simp, by simp⟩, fun j' e => by simp only [Pl.slot.injEq] at e; exact hdi e.1.symm⟩
  · have hk' : (boxN k).2 = some cs := hk
    have hbk := hboxN k
    show (boxN k = st.box k ∧ _) ∨ BoxAt S' locN boxN _ w' k cs
    by_cases hnew : k = key ∧ (bx' ks.length).2.isSome = true
    · right
      rw [hbk, if_pos hnew] at hk'
      obtain ⟨t, vs, b1, b2, b3, b4, b5⟩ := hR.bx ks.length cs hk'
      have hlk : locN k = loc' ks.length := by
        show (if k = key ∧ (bx' ks.length).2.isSome = true then loc' ks.length else loc k) = _
        rw [if_pos hnew]
      refine ⟨t, vs, ?_, by rw [hlk]; exact b2, by rw [hlk]; exact b3, b4, fun j c hc => ?_⟩
      · rw [hlk, hnew.1]
        exact htr _ _ _ b1 (by simp [trPl])
      · obtain ⟨u, hu, hr⟩ := b5 j c hc
        have hno : noPtr c = true := by
          have := hback ks.length (Nat.le_refl _)
          unfold backOk at this
          rw [hk'] at this
          exact List.all_eq_true.1 this c (List.mem_of_getElem? hc)
        exact ⟨u, hu, hcell hno (by simp [trPl, hnew.1]) hr⟩
    · by_cases hkm : k ∈ ks
      · right
        rw [hbk, if_neg hnew, if_pos hkm] at hk'
        have hlt := List.idxOf_lt_length_of_mem hkm
        have hgk : ks[ks.idxOf k]? = some k := by rw [List.getElem?_eq_getElem hlt]; simp
        obtain ⟨t, vs, b1, b2, b3, b4, b5⟩ := hR.bx (ks.idxOf k) cs hk'
        have hlk : locN k = loc' (ks.idxOf k) := by
          show (if k = key ∧ (bx' ks.length).2.isSome = true then loc' ks.length else loc k) = _
          rw [if_neg hnew, hlocks k hkm]
        refine ⟨t, vs, ?_, by rw [hlk]; exact b2, by rw [hlk]; exact b3, b4, fun j c hc => ?_⟩
        · rw [hlk]
          exact htr _ _ _ b1 (by simp [trPl, hgk])
        · obtain ⟨u, hu, hr⟩ := b5 j c hc
          have hno : noPtr c = true := by
            have := hback (ks.idxOf k) (by omega)
            unfold backOk at this
            rw [hk'] at this
            exact List.all_eq_true.1 this c (List.mem_of_getElem? hc)
          exact ⟨u, hu, hcell hno (by simp [trPl, hgk]) hr⟩
      · left
        refine ⟨by rw [hbk, if_neg hnew, if_neg hkm], ?_, fun j => ?_⟩
        · simp only [Pl.box.injEq, not_or, not_exists, not_and]
          exact ⟨fun k' hk1 => ⟨fun e => hkm (e ▸ hk1), by simp⟩, fun hs => ⟨fun e => hnew ⟨e, hs⟩, by simp⟩, by simp⟩
        · simp only [Pl.bcell.injEq, not_or, not_exists, not_and]
          exact ⟨fun k' hk1 => ⟨by simp, fun j' e => absurd (e ▸ hk1) hkm⟩, fun hs => ⟨by simp, fun j' e => absurd ⟨e, hs⟩ hnew⟩, by simp⟩

end
end Go.V

