/- The value machine, part 18: what an instruction looks at, and what it turns. -/
import Derived.Test.YtglmbheeplndpaaV17
set_option linter.all false
set_option linter.unusedSimpArgs false
set_option linter.unusedVariables false
namespace Go.V
open Go

def oslots : Option VX → List Nat
  | none => []
  | some x => x.slots

def VOp.slots : VOp → List Nat
  | .move x _ | .box _ _ x | .nilCheck x | .fieldAddr x _ | .field x _ _ _ | .un _ x | .conv _ x | .len x | .lenStr x | .extract x _ _ | .toStr x | .isNil _ x | .empty _ _ x | .clear x _ => x.slots
  | .alloc _ _ => []
  | .load x _ _ _ => x.slots
  | .pick c a b => c.slots ++ (a.slots ++ b.slots)
  | .store p x _ => p.slots ++ x.slots
  | .build _ ps => ps.flatMap fun p => p.2.2.slots
  | .buildSlice _ _ _ _ ps => ps.flatMap fun p => p.2.slots
  | .bin _ _ x y | .indexAddr x y _ | .indexArr x y _ _ | .indexStr x y | .append _ _ _ _ x y | .eqAgg _ _ x y | .mm _ x y => x.slots ++ y.slots
  | .slice _ x lo hi mx => x.slots ++ (oslots lo ++ (oslots hi ++ oslots mx))
  | .sliceStr x lo hi | .sliceArr _ _ x lo hi => x.slots ++ (oslots lo ++ oslots hi)
  | .mkFn _ xs => xs.flatMap VX.slots
  | .call _ xs => xs.flatMap VX.slots
  | .callV f xs => f.slots ++ xs.flatMap VX.slots

def VI.slots (i : VI) : List Nat := i.op.slots ++ (match i.guard with | some (t, _) => [t] | none => [])

def ptrKey : SV → List Nat
  | .c (.ptr k _ _) => [k]
  | _ => []

def mslKey : SV → List Nat
  | .c (.msl k _ _ _) => [k]
  | _ => []

/-- The boxes that an instruction looks at. -/
def VI.keys (i : VI) (env : Nat → SV) : List Nat :=
  match i.op with
  | .load p _ _ _ => ptrKey (p.get env)
  | .store p _ _ => ptrKey (p.get env)
  | .clear x _ => mslKey (x.get env)
  | .box key _ _ => [key]
  | .alloc key _ => [key]
  | .call _ _ => match i.dst with | some d => [2 * d + 1] | none => []
  | .callV _ _ => match i.dst with | some d => [2 * d + 1] | none => []
  | _ => []

/-- Two states that look alike from an instruction. -/
def Like (i : VI) (out : Out) (st st' : VSt) : Prop :=
  (∀ s ∈ i.slots, st'.env s = st.env s) ∧ ∀ k, k ∈ i.keys st.env ∨ k ∈ out.boxes.map (·.1) → st'.box k = st.box k

theorem get_like {env env' : Nat → SV} {x : VX} (h : ∀ s ∈ x.slots, env' s = env s) : x.get env' = x.get env := by
  cases x with
  | slot n => exact h n (by simp [VX.slots])
  | lit x => rfl

theorem bound_like {env env' : Nat → SV} {x : Option VX} (h : ∀ s ∈ oslots x, env' s = env s) : bound env' x = bound env x := by
  cases x with
  | none => rfl
  | some x => simp only [bound]; rw [get_like h]

theorem kcsOf_like {env env' : Nat → SV} : ∀ (xs : List VX), (∀ s ∈ xs.flatMap VX.slots, env' s = env s) → kcsOf env' xs = kcsOf env xs
  | [], _ => rfl
  | x :: r, h => by
    have h1 := get_like (x := x) (env := env) (env' := env') (fun s hs => h s (by simp only [List.flatMap_cons, List.mem_append]; exact .inl hs))
    have h2 := kcsOf_like (env := env) (env' := env') r (fun s hs => h s (by simp only [List.flatMap_cons, List.mem_append]; exact .inr hs))
    simp only [kcsOf, h1, h2]

theorem takeOf_like {env env' : Nat → SV} {x : VX} (h : ∀ s ∈ x.slots, env' s = env s) : takeOf env' x = takeOf env x := by
  cases x with
  | slot n => simp only [takeOf]; rw [h n (by simp [VX.slots])]
  | lit x => rfl

theorem buildParts_like {env env' : Nat → SV} : ∀ (ps : List (Nat × Nat × VX)) (cs : List C), (∀ s ∈ ps.flatMap (fun p => p.2.2.slots), env' s = env s) → buildParts env' cs ps = buildParts env cs ps
  | [], cs, _ => rfl
  | (off, n, x) :: r, cs, h => by
    have hx := get_like (env := env) (env' := env') (x := x) (fun s hs => h s (by simp [hs]))
    simp only [buildParts, hx]
    split
    · split
      · exact buildParts_like r _ (fun s hs => h s (by
          simp only [List.flatMap_cons, List.mem_append]
          exact .inr hs))
      · rfl
    · rfl

theorem sliceParts_like {env env' : Nat → SV} {sz : Nat} : ∀ (ps : List (Nat × VX)) (es : List (List D)), (∀ s ∈ ps.flatMap (fun p => p.2.slots), env' s = env s) → sliceParts env' sz es ps = sliceParts env sz es ps
  | [], es, _ => rfl
  | (i, x) :: r, es, h => by
    have hx := get_like (env := env) (env' := env') (x := x) (fun s hs => h s (by simp [hs]))
    simp only [sliceParts, hx]
    split
    · split
      · split
        · exact sliceParts_like r _ (fun s hs => h s (by
            simp only [List.flatMap_cons, List.mem_append]
            exact .inr hs))
        · rfl
      · rfl
    · rfl

theorem place_like {box box' : Tab} {x : SV} (h : ∀ k ∈ ptrKey x, box' k = box k) : place box' x = place box x := by
  rcases x with (_ | _ | _ | ⟨k, ver, o⟩ | _ | _ | _) | _ | _ <;> try rfl
  simp only [place]
  rw [h k (by simp [ptrKey])]

theorem place_key {box : Tab} {x : SV} {k off : Nat} (h : place box x = some (.box k off)) : k ∈ ptrKey x := by
  unfold place at h
  split at h
  · split at h
    · cases h; simp [ptrKey]
    · cases h
  · cases h
  · cases h

theorem vexec_like {i : VI} {st st' : VSt} {out : Out} (hl : Like i out st st') (hv : vexec i.op st = some out) : vexec i.op st' = some out := by
  obtain ⟨he, hb⟩ := hl
  have he' : ∀ s ∈ i.op.slots, st'.env s = st.env s := fun s hs => he s (by simp [VI.slots, hs])
  have hb' : ∀ k ∈ i.keys st.env, st'.box k = st.box k := fun k hk => hb k (.inl hk)
  rw [← hv]
  clear hv hb he
  revert he' hb'
  unfold VI.keys
  cases i.op with
  | move x t => intro he _; simp only [vexec, get_like he, takeOf_like he]
  | pick c a b =>
    intro he _
    simp only [VOp.slots, List.mem_append] at he
    simp only [vexec, get_like (x := c) (fun s hs => he s (.inl hs)), get_like (x := a) (fun s hs => he s (.inr (.inl hs))), get_like (x := b) (fun s hs => he s (.inr (.inr hs)))]
  | box key n x => intro he hb; simp only [vexec, get_like he, hb key (by simp)]
  | alloc key z => intro he hb; simp only [vexec, hb key (by simp)]
  | load p agg n t =>
    intro he hb
    have hg := get_like he
    simp only [vexec, hg, place_like hb]
    split
    · rfl
    · rename_i k off hp
      simp only [hb k (place_key hp)]
    · rfl
  | store p x n =>
    intro he hb
    simp only [VOp.slots, List.mem_append] at he
    have hg := get_like (x := p) (fun s hs => he s (.inl hs))
    have hx := get_like (x := x) (fun s hs => he s (.inr hs))
    have ht := takeOf_like (x := x) (fun s hs => he s (.inr hs))
    simp only [vexec, hg, hx, ht, place_like hb]
    split
    · rename_i k off hp
      simp only [hb k (place_key hp)]
    · rfl
  | nilCheck x => intro he _; simp only [vexec, get_like he]
  | fieldAddr p off => intro he _; simp only [vexec, get_like he]
  | field x agg off n => intro he _; simp only [vexec, get_like he]
  | build z ps => intro he _; simp only [vexec, buildParts_like ps z he]
  | buildSlice e sz len z ps => intro he _; simp only [vexec, sliceParts_like ps _ he]
  | bin b op x y =>
    intro he _
    simp only [VOp.slots, List.mem_append] at he
    simp only [vexec, get_like (x := x) (fun s hs => he s (.inl hs)), get_like (x := y) (fun s hs => he s (.inr hs))]
  | un op x => intro he _; simp only [vexec, get_like he]
  | conv k x => intro he _; simp only [vexec, get_like he]
  | indexAddr x y sz =>
    intro he _
    simp only [VOp.slots, List.mem_append] at he
    simp only [vexec, get_like (x := x) (fun s hs => he s (.inl hs)), get_like (x := y) (fun s hs => he s (.inr hs))]
  | indexArr x y n sz =>
    intro he _
    simp only [VOp.slots, List.mem_append] at he
    simp only [vexec, get_like (x := x) (fun s hs => he s (.inl hs)), get_like (x := y) (fun s hs => he s (.inr hs))]
  | indexStr x y =>
    intro he _
    simp only [VOp.slots, List.mem_append] at he
    simp only [vexec, get_like (x := x) (fun s hs => he s (.inl hs)), get_like (x := y) (fun s hs => he s (.inr hs))]
  | slice sz x lo hi mx =>
    intro he _
    simp only [VOp.slots, List.mem_append] at he
    simp only [vexec, get_like (x := x) (fun s hs => he s (.inl hs)), bound_like (x := lo) (fun s hs => he s (.inr (.inl hs))), bound_like (x := hi) (fun s hs => he s (.inr (.inr (.inl hs)))), bound_like (x := mx) (fun s hs => he s (.inr (.inr (.inr hs))))]
  | sliceStr x lo hi =>
    intro he _
    simp only [VOp.slots, List.mem_append] at he
    simp only [vexec, get_like (x := x) (fun s hs => he s (.inl hs)), bound_like (x := lo) (fun s hs => he s (.inr (.inl hs))), bound_like (x := hi) (fun s hs => he s (.inr (.inr hs)))]
  | sliceArr n sz x lo hi =>
    intro he _
    simp only [VOp.slots, List.mem_append] at he
    simp only [vexec, get_like (x := x) (fun s hs => he s (.inl hs)), bound_like (x := lo) (fun s hs => he s (.inr (.inl hs))), bound_like (x := hi) (fun s hs => he s (.inr (.inr hs)))]
  | empty e sz x => intro he _; simp only [vexec, get_like he]
  | clear x z =>
    intro he hb
    have hg := get_like he
    simp only [vexec, hg]
    split
    · rename_i k ver off len hx
      rw [hb k (by simp [hx, mslKey])]
    · rfl
  | mkFn f xs => intro he _; simp only [vexec, kcsOf_like xs he]
  | len x => intro he _; simp only [vexec, get_like he]
  | lenStr x => intro he _; simp only [vexec, get_like he]
  | append str e sz bytes x y =>
    intro he _
    simp only [VOp.slots, List.mem_append] at he
    simp only [vexec, get_like (x := x) (fun s hs => he s (.inl hs)), get_like (x := y) (fun s hs => he s (.inr hs))]
  | extract x n t => intro he _; simp only [vexec, get_like he]
  | eqAgg neg n x y =>
    intro he _
    simp only [VOp.slots, List.mem_append] at he
    simp only [vexec, get_like (x := x) (fun s hs => he s (.inl hs)), get_like (x := y) (fun s hs => he s (.inr hs))]
  | toStr x => intro he _; simp only [vexec, get_like he]
  | mm b x y =>
    intro he _
    simp only [VOp.slots, List.mem_append] at he
    simp only [vexec, get_like (x := x) (fun s hs => he s (.inl hs)), get_like (x := y) (fun s hs => he s (.inr hs))]
  | isNil neg x => intro he _; simp only [vexec, get_like he]
  | call f xs => intros; rfl
  | callV f xs => intros; rfl

theorem backs_keys (ks : List Nat) (box bx' : Tab) : ∀ (r : List Nat) (i : Nat), (backs ks box bx' i r).map (·.1) = r
  | [], _ => rfl
  | k :: r, i => by simp [backs, backs_keys ks box bx' r (i + 1)]

theorem argKCs_like {ks : List Nat} {box box' : Tab} (h : ∀ k ∈ ks, box' k = box k) : ∀ cs : List KC, argKCs ks box' cs = argKCs ks box cs
  | [] => rfl
  | c :: cs => by
    have hc : argKC ks box' c = argKC ks box c := by
      cases c with
      | d x => rfl
      | ptr k ver off =>
        simp only [argKC]
        by_cases hk : ks.idxOf k < ks.length
        · rw [h k (List.idxOf_lt_length_iff.1 hk)]
        · rw [if_neg (fun e => hk e.2), if_neg (fun e => hk e.2)]
    simp only [argKCs, hc, argKCs_like h cs]

theorem argOf_like {ks : List Nat} {box box' : Tab} (h : ∀ k ∈ ks, box' k = box k) (x : SV) : argOf ks box' x = argOf ks box x := by
  rcases x with (_ | _ | _ | ⟨k, ver, o⟩ | _ | ⟨k, ver, o, n⟩ | ⟨f, caps⟩) | _ | _ <;> try rfl
  · simp only [argOf]
    by_cases hk : ks.idxOf k < ks.length
    · rw [h k (List.idxOf_lt_length_iff.1 hk)]
    · rw [if_neg (fun e => hk e.2), if_neg (fun e => hk e.2)]
  · simp only [argOf]
    by_cases hk : ks.idxOf k < ks.length
    · rw [h k (List.idxOf_lt_length_iff.1 hk)]
    · rw [if_neg (fun e => hk e.2), if_neg (fun e => hk e.2)]
  · simp only [argOf, argKCs_like h]

theorem argsOf_like {ks : List Nat} {box box' : Tab} (h : ∀ k ∈ ks, box' k = box k) : ∀ xs : List SV, argsOf ks box' xs = argsOf ks box xs
  | [] => rfl
  | x :: xs => by simp only [argsOf, argOf_like h, argsOf_like h xs]

theorem argsK_like {ks : List Nat} {box box' : Tab} (h : ∀ k ∈ ks, box' k = box k) : ∀ xs : List SV, argsK ks box' xs = argsK ks box xs
  | [] => rfl
  | x :: xs => by
    have hx : argK ks box' x = argK ks box x := by
      unfold argK
      split
      · rfl
      · exact argOf_like h x
    simp only [argsK, hx, argsK_like h xs]

theorem callStep_like {P : Program} {f : FuncId} {xs : List SV} {st st' : VSt} {d : Nat} {out : Out} (h : CallStep P f xs st d out) (hb : ∀ k, k = 2 * d + 1 ∨ k ∈ out.boxes.map (·.1) → st'.box k = st.box k) : CallStep P f xs st' d out := by
  obtain ⟨hcall, ks, as, res, bx', val, h1, h2, h3, h4, h5, h6, h7, rfl⟩ := h
  have hks : ∀ k ∈ ks, st'.box k = st.box k := fun k hk => hb k (.inr (by
    simp only [callOut, List.map_append, backs_keys, List.mem_append]
    exact .inl hk))
  have hkey : st'.box (2 * d + 1) = st.box (2 * d + 1) := hb _ (.inl rfl)
  have hlent : lent ks st'.box = lent ks st.box := by
    funext i
    unfold lent
    split
    · rename_i k hk
      rw [hks k (List.mem_of_getElem? hk)]
    · rfl
  have hresC : ∀ c, resC ks st'.box (2 * d + 1) bx' c = resC ks st.box (2 * d + 1) bx' c := by
    have hP : ∀ i ver, resP ks st'.box (2 * d + 1) bx' i ver = resP ks st.box (2 * d + 1) bx' i ver := by
      intro i ver
      unfold resP
      split
      · split
        · rename_i k hk
          rw [hks k (List.mem_of_getElem? hk)]
        · rw [hkey]
      · rfl
    intro c
    cases c <;> simp only [resC, hP]
  have hresV1 : ∀ x, resV1 ks st'.box (2 * d + 1) bx' x = resV1 ks st.box (2 * d + 1) bx' x := by
    intro x
    cases x with
    | c c => simp only [resV1, hresC]
    | agg xs => rfl
    | tup xs => rfl
  have hresVs : ∀ xs, resVs ks st'.box (2 * d + 1) bx' xs = resVs ks st.box (2 * d + 1) bx' xs := by
    intro xs
    induction xs with
    | nil => rfl
    | cons x xs ih => simp only [resVs, hresV1, ih]
  have hresV : resV ks st'.box (2 * d + 1) bx' res = resV ks st.box (2 * d + 1) bx' res := by
    cases res with
    | c c => simp only [resV]; exact hresV1 _
    | agg xs => rfl
    | tup xs => simp only [resV, hresVs]
  have hbacks : ∀ (r : List Nat) (i : Nat), (∀ k ∈ r, k ∈ ks) → backs ks st'.box bx' i r = backs ks st.box bx' i r := by
    intro r
    induction r with
    | nil => intros; rfl
    | cons k r ih => intro i hr; simp only [backs, hks k (hr k (by simp)), ih (i + 1) (fun k' hk' => hr k' (by simp [hk']))]
  refine ⟨hcall, ks, as, res, bx', val, h1, fun k hk => ?_, by unfold ArgsTo; rw [argsOf_like hks, argsK_like hks]; exact h3, by rw [hlent]; exact h4, h5, by rw [hresV]; exact h6, h7, ?_⟩
  · unfold lentOk
    rw [hks k hk]
    exact h2 k hk
  · unfold callOut newBox
    rw [hbacks ks 0 (fun _ h => h), hkey]

theorem VEff.like {P : Program} {i : VI} {st st' : VSt} {out : Out} (h : VEff P i st out) (hl : Like i out st st') : VEff P i st' out := by
  have hg : gtest st'.env i.guard = gtest st.env i.guard := by
    unfold gtest
    split
    · rfl
    · rename_i t want hgd
      rw [hl.1 t (by simp [VI.slots, hgd])]
  rcases h with ⟨h1, h2⟩ | ⟨h1, h2⟩
  · left
    refine ⟨hg.trans h1, ?_⟩
    unfold VStep at h2 ⊢
    split at h2
    · rename_i f args d hop hd
      have hxs : args.map (·.get st'.env) = args.map (·.get st.env) := List.map_congr_left fun x hx => get_like fun s hs => hl.1 s (by
        simp only [VI.slots, hop, VOp.slots, List.mem_append, List.mem_flatMap]
        exact .inl ⟨x, hx, hs⟩)
      rw [hxs]
      exact callStep_like h2 (fun k hk => hl.2 k (hk.imp (fun e => by simp [VI.keys, hop, hd, e]) id))
    · rename_i fn args d hop hd
      have hxs : args.map (·.get st'.env) = args.map (·.get st.env) := List.map_congr_left fun x hx => get_like fun s hs => hl.1 s (by
        simp only [VI.slots, hop, VOp.slots, List.mem_append, List.mem_flatMap]
        exact .inl (.inr ⟨x, hx, hs⟩))
      have hfn : fn.get st'.env = fn.get st.env := get_like fun s hs => hl.1 s (by
        simp only [VI.slots, hop, VOp.slots, List.mem_append]
        exact .inl (.inl hs))
      rw [hxs, hfn]
      obtain ⟨f, caps, hf, hc⟩ := h2
      exact ⟨f, caps, hf, callStep_like hc (fun k hk => hl.2 k (hk.imp (fun e => by simp [VI.keys, hop, hd, e]) id))⟩
    · exact vexec_like hl h2
  · right
    exact ⟨hg.trans h1, h2⟩

end Go.V

