/- The value machine, part 25: the steps of a walk. -/
import Derived.Test.YtglmbheeplndpaaV24
set_option linter.all false
set_option linter.unusedSimpArgs false
set_option linter.unusedVariables false
namespace Go.V
open Go

section
variable {P : Program} {st : VSt} {Q : VQ}

theorem vstep_of {op : VOp} {d : Option Nat} {g : Option (Nat × Bool)} (h : isCall op = false) {o : Out} (h1 : vexec op st = some o) : VStep P ⟨d, g, op⟩ st o := by
  unfold VStep
  split
  · rename_i h' _; simp only at h'; rw [h'] at h; cases h
  · rename_i h' _; simp only at h'; rw [h'] at h; cases h
  · exact h1

/-- One instruction that is no call. -/
theorem w_op {d : Option Nat} {op : VOp} {is : List VI} {K : VSt → Prop} (h : isCall op = false) {o : Out} (h1 : vexec op st = some o) (h2 : wpI P is K (st.app d o)) : wpI P (⟨d, none, op⟩ :: is) K st :=
  w_cons (.inl ⟨rfl, vstep_of h h1⟩) h2

/-- One that is guarded: it is done; it is not. -/
theorem w_opT {d : Option Nat} {g : Nat × Bool} {op : VOp} {is : List VI} {K : VSt → Prop} (h : isCall op = false) (hg : gtest st.env (some g) = some true) {o : Out} (h1 : vexec op st = some o) (h2 : wpI P is K (st.app d o)) : wpI P (⟨d, some g, op⟩ :: is) K st :=
  w_cons (.inl ⟨hg, vstep_of h h1⟩) h2
theorem w_opF {d : Option Nat} {g : Nat × Bool} {op : VOp} {is : List VI} {K : VSt → Prop} (hg : gtest st.env (some g) = some false) (h2 : wpI P is K (st.app d { val := .undef })) : wpI P (⟨d, some g, op⟩ :: is) K st :=
  w_cons (.inr ⟨hg, rfl⟩) h2

/-- A call that lends nothing. -/
theorem e_call0 {d : Nat} {f : FuncId} {args : List VX} {as : List SV} {res val : SV} (hc : callable P f = true) (ha : argsOf [] st.box (args.map (·.get st.env)) = some as) (pc : PC P f as (tab []) res (tab [])) (hv : resV [] st.box (2 * d + 1) (tab []) res = some val) :
    VEff P ⟨some d, none, .call f args⟩ st { val := val } := by
  refine .inl ⟨rfl, ?_⟩
  have ht : lent [] st.box = tab [] := by
    funext i
    simp [lent, tab]
  exact ⟨hc, [], as, res, tab [], val, List.nodup_nil, by simp, .inl ha, by rw [ht]; exact pc, by simp, hv, fun i _ => by simp [backOk, tab], by simp [callOut, backs, newBox, tab]⟩

theorem w_call0T {d : Nat} {g : Nat × Bool} {f : FuncId} {args : List VX} {is : List VI} {K : VSt → Prop} {as : List SV} {res val : SV} (hc : callable P f = true) (hg : gtest st.env (some g) = some true) (ha : argsOf [] st.box (args.map (·.get st.env)) = some as) (pc : PC P f as (tab []) res (tab [])) (hv : resV [] st.box (2 * d + 1) (tab []) res = some val)
    (h2 : wpI P is K (st.app (some d) { val := val })) : wpI P (⟨some d, some g, .call f args⟩ :: is) K st := by
  refine w_cons (o := { val := val }) (.inl ⟨hg, ?_⟩) h2
  rcases e_call0 (d := d) hc ha pc hv with ⟨_, h⟩ | ⟨h, _⟩
  · exact h
  · cases h

theorem w_call0 {d : Nat} {f : FuncId} {args : List VX} {is : List VI} {K : VSt → Prop} {as : List SV} {res val : SV} (hc : callable P f = true) (ha : argsOf [] st.box (args.map (·.get st.env)) = some as) (pc : PC P f as (tab []) res (tab [])) (hv : resV [] st.box (2 * d + 1) (tab []) res = some val)
    (h2 : wpI P is K (st.app (some d) { val := val })) : wpI P (⟨some d, none, .call f args⟩ :: is) K st := w_cons (e_call0 hc ha pc hv) h2

/-- A call to which a nil slice goes as one. -/
theorem w_call0K {d : Nat} {f : FuncId} {args : List VX} {is : List VI} {K : VSt → Prop} {as : List SV} {res val : SV} (hc : callable P f = true) (ha : argsK [] st.box (args.map (·.get st.env)) = some as) (pc : PC P f as (tab []) res (tab [])) (hv : resV [] st.box (2 * d + 1) (tab []) res = some val)
    (h2 : wpI P is K (st.app (some d) { val := val })) : wpI P (⟨some d, none, .call f args⟩ :: is) K st := by
  refine w_cons (o := { val := val }) (.inl ⟨rfl, ?_⟩) h2
  have ht : lent [] st.box = tab [] := by
    funext i
    simp [lent, tab]
  exact ⟨hc, [], as, res, tab [], val, List.nodup_nil, by simp, .inr ha, by rw [ht]; exact pc, by simp, hv, fun i _ => by simp [backOk, tab], by simp [callOut, backs, newBox, tab]⟩

/-- What comes back of boxes that were lent. -/
def back2 (box : Tab) : List Nat → List (List C) → List (Nat × (Nat × Option (List C)))
  | k :: ks, cs :: css => (k, ((box k).1, some cs)) :: back2 box ks css
  | _, _ => []

theorem backs_back2 (ks0 : List Nat) (box : Tab) (css0 : List (List C)) : ∀ (ks : List Nat) (css : List (List C)) (i : Nat), ks.length = css.length → (∀ j cs, css[j]? = some cs → css0[i + j]? = some cs) → backs ks0 box (tab css0) i ks = back2 box ks css
  | [], [], _, _, _ => rfl
  | k :: ks, cs :: css, i, hl, h => by
    have h0 := h 0 cs rfl
    simp only [Nat.add_zero] at h0
    simp only [backs, back2, tab, h0]
    rw [backs_back2 ks0 box css0 ks css (i + 1) (by simpa using hl) (fun j c hc => by have := h (j + 1) c (by simpa using hc); rwa [show i + (j + 1) = i + 1 + j by omega] at this)]
  | [], _ :: _, _, hl, _ => by simp at hl
  | _ :: _, [], _, hl, _ => by simp at hl

theorem lent_tab {ks : List Nat} {box : Tab} {css : List (List C)} (h : ks.map (fun k => (box k).2) = css.map some) : lent ks box = tab css := by
  funext i
  have hi := congrArg (fun l : List (Option (List C)) => l[i]?) h
  simp only [List.getElem?_map] at hi
  unfold lent tab
  cases hk : ks[i]? with
  | none =>
    rw [hk] at hi
    cases hc : css[i]? with
    | none => rfl
    | some cs => rw [hc] at hi; cases hi
  | some k =>
    rw [hk] at hi
    cases hc : css[i]? with
    | none => rw [hc] at hi; cases hi
    | some cs =>
      rw [hc] at hi
      simp only [Option.map_some, Option.some.injEq] at hi
      simp only [hi]

/-- A call that lends boxes. -/
theorem e_call {d : Nat} {f : FuncId} {args : List VX} (ks : List Nat) {css css' : List (List C)} {as : List SV} {res val : SV} (hc : callable P f = true) (hnd : ks.Nodup) (hk : (2 * d + 1) ∉ ks) (hcs : ks.map (fun k => (st.box k).2) = css.map some) (hnp : (css.all fun cs => cs.all noPtr) = true)
    (ha : argsOf ks st.box (args.map (·.get st.env)) = some as) (pc : PC P f as (tab css) res (tab css')) (hl : css'.length = css.length) (hnp' : (css'.all fun cs => cs.all noPtr) = true) (hv : resV ks st.box (2 * d + 1) (tab css') res = some val) :
    VEff P ⟨some d, none, .call f args⟩ st { val := val, boxes := back2 st.box ks css' } := by
  refine .inl ⟨rfl, ?_⟩
  have hlen : ks.length = css.length := by
    have := congrArg List.length hcs
    simpa using this
  refine ⟨hc, ks, as, res, tab css', val, hnd, fun k hk' => ?_, .inl ha, by rw [lent_tab hcs]; exact pc, hk, hv, fun i _ => ?_, ?_⟩
  · obtain ⟨i, hi, rfl⟩ := List.getElem_of_mem hk'
    have hi2 := congrArg (fun l : List (Option (List C)) => l[i]?) hcs
    simp only [List.getElem?_map, List.getElem?_eq_getElem hi, List.getElem?_eq_getElem (show i < css.length by omega), Option.map_some, Option.some.injEq] at hi2
    unfold lentOk
    rw [hi2]
    exact List.all_eq_true.1 hnp _ (List.getElem_mem _)
  · unfold backOk tab
    cases hc : css'[i]? with
    | none => rfl
    | some cs => exact List.all_eq_true.1 hnp' _ (List.mem_of_getElem? hc)
  · have hn : newBox ks st.box (2 * d + 1) (tab css') = [] := by
      unfold newBox tab
      rw [List.getElem?_eq_none (by omega)]
    simp only [callOut, hn, List.append_nil]
    rw [backs_back2 ks st.box css' ks css' 0 (by omega) (fun j cs hj => by simpa using hj)]

theorem w_call {d : Nat} {f : FuncId} {args : List VX} {is : List VI} {K : VSt → Prop} (ks : List Nat) {css css' : List (List C)} {as : List SV} {res val : SV} (hc : callable P f = true) (hnd : ks.Nodup) (hk : (2 * d + 1) ∉ ks) (hcs : ks.map (fun k => (st.box k).2) = css.map some) (hnp : (css.all fun cs => cs.all noPtr) = true)
    (ha : argsOf ks st.box (args.map (·.get st.env)) = some as) (pc : PC P f as (tab css) res (tab css')) (hl : css'.length = css.length) (hnp' : (css'.all fun cs => cs.all noPtr) = true) (hv : resV ks st.box (2 * d + 1) (tab css') res = some val)
    (h2 : wpI P is K (st.app (some d) { val := val, boxes := back2 st.box ks css' })) : wpI P (⟨some d, none, .call f args⟩ :: is) K st := w_cons (e_call ks hc hnd hk hcs hnp ha pc hl hnp' hv) h2

/-- A call that gives a new box. -/
theorem e_callN {d : Nat} {f : FuncId} {args : List VX} (ks : List Nat) {css css' : List (List C)} {cs : List C} {as : List SV} {res val : SV} (hc : callable P f = true) (hnd : ks.Nodup) (hk : (2 * d + 1) ∉ ks) (hcs : ks.map (fun k => (st.box k).2) = css.map some) (hnp : (css.all fun cs => cs.all noPtr) = true)
    (ha : argsOf ks st.box (args.map (·.get st.env)) = some as) (pc : PC P f as (tab css) res (tab (css' ++ [cs]))) (hl : css'.length = css.length) (hnp' : ((css' ++ [cs]).all fun cs => cs.all noPtr) = true) (hv : resV ks st.box (2 * d + 1) (tab (css' ++ [cs])) res = some val) :
    VEff P ⟨some d, none, .call f args⟩ st { val := val, boxes := back2 st.box ks css' ++ [(2 * d + 1, ((st.box (2 * d + 1)).1 + 1, some cs))] } := by
  refine .inl ⟨rfl, ?_⟩
  have hlen : ks.length = css.length := by
    have := congrArg List.length hcs
    simpa using this
  refine ⟨hc, ks, as, res, tab (css' ++ [cs]), val, hnd, fun k hk' => ?_, .inl ha, by rw [lent_tab hcs]; exact pc, hk, hv, fun i _ => ?_, ?_⟩
  · obtain ⟨i, hi, rfl⟩ := List.getElem_of_mem hk'
    have hi2 := congrArg (fun l : List (Option (List C)) => l[i]?) hcs
    simp only [List.getElem?_map, List.getElem?_eq_getElem hi, List.getElem?_eq_getElem (show i < css.length by omega), Option.map_some, Option.some.injEq] at hi2
    unfold lentOk
    rw [hi2]
    exact List.all_eq_true.1 hnp _ (List.getElem_mem _)
  · unfold backOk tab
    cases hc : (css' ++ [cs])[i]? with
    | none => rfl
    | some cs => exact List.all_eq_true.1 hnp' _ (List.mem_of_getElem? hc)
  · have hn : newBox ks st.box (2 * d + 1) (tab (css' ++ [cs])) = [(2 * d + 1, ((st.box (2 * d + 1)).1 + 1, some cs))] := by
      unfold newBox tab
      rw [List.getElem?_append_right (by omega)]
      simp [show ks.length - css'.length = 0 by omega]
    simp only [callOut, hn]
    rw [backs_back2 ks st.box (css' ++ [cs]) ks css' 0 (by omega) (fun j c hj => by
      rw [Nat.zero_add, List.getElem?_append_left ((List.getElem?_eq_some_iff.1 hj).1)]
      exact hj)]

theorem w_callN {d : Nat} {f : FuncId} {args : List VX} {is : List VI} {K : VSt → Prop} (ks : List Nat) {css css' : List (List C)} {cs : List C} {as : List SV} {res val : SV} (hc : callable P f = true) (hnd : ks.Nodup) (hk : (2 * d + 1) ∉ ks) (hcs : ks.map (fun k => (st.box k).2) = css.map some) (hnp : (css.all fun cs => cs.all noPtr) = true)
    (ha : argsOf ks st.box (args.map (·.get st.env)) = some as) (pc : PC P f as (tab css) res (tab (css' ++ [cs]))) (hl : css'.length = css.length) (hnp' : ((css' ++ [cs]).all fun cs => cs.all noPtr) = true) (hv : resV ks st.box (2 * d + 1) (tab (css' ++ [cs])) res = some val)
    (h2 : wpI P is K (st.app (some d) { val := val, boxes := back2 st.box ks css' ++ [(2 * d + 1, ((st.box (2 * d + 1)).1 + 1, some cs))] })) : wpI P (⟨some d, none, .call f args⟩ :: is) K st := w_cons (e_callN ks hc hnd hk hcs hnp ha pc hl hnp' hv) h2

/-! in a region whose order is drawn -/
theorem d_op {d : Option Nat} {op : VOp} {is : List VI} {K : List (List Nat × List Nat) → VSt → Prop} (h : isCall op = false) {o : Out} (h1 : vexec op st = some o) (h2 : wpD P is (fun acc st' => K ((VI.keys ⟨d, none, op⟩ st.env, o.boxes.map (·.1)) :: acc) st') (st.app d o)) : wpD P (⟨d, none, op⟩ :: is) K st :=
  w_dcons (.inl ⟨rfl, vstep_of h h1⟩) h2
theorem d_opT {d : Option Nat} {g : Nat × Bool} {op : VOp} {is : List VI} {K : List (List Nat × List Nat) → VSt → Prop} (h : isCall op = false) (hg : gtest st.env (some g) = some true) {o : Out} (h1 : vexec op st = some o) (h2 : wpD P is (fun acc st' => K ((VI.keys ⟨d, some g, op⟩ st.env, o.boxes.map (·.1)) :: acc) st') (st.app d o)) : wpD P (⟨d, some g, op⟩ :: is) K st :=
  w_dcons (.inl ⟨hg, vstep_of h h1⟩) h2
theorem d_opF {d : Option Nat} {g : Nat × Bool} {op : VOp} {is : List VI} {K : List (List Nat × List Nat) → VSt → Prop} (hg : gtest st.env (some g) = some false) (h2 : wpD P is (fun acc st' => K ((VI.keys ⟨d, some g, op⟩ st.env, []) :: acc) st') (st.app d { val := .undef })) : wpD P (⟨d, some g, op⟩ :: is) K st :=
  w_dcons (.inr ⟨hg, rfl⟩) h2
theorem d_call0 {d : Nat} {f : FuncId} {args : List VX} {is : List VI} {K : List (List Nat × List Nat) → VSt → Prop} {as : List SV} {res val : SV} (hc : callable P f = true) (ha : argsOf [] st.box (args.map (·.get st.env)) = some as) (pc : PC P f as (tab []) res (tab [])) (hv : resV [] st.box (2 * d + 1) (tab []) res = some val)
    (h2 : wpD P is (fun acc st' => K (([2 * d + 1], []) :: acc) st') (st.app (some d) { val := val })) : wpD P (⟨some d, none, .call f args⟩ :: is) K st := w_dcons (e_call0 hc ha pc hv) h2
theorem d_call0T {d : Nat} {g : Nat × Bool} {f : FuncId} {args : List VX} {is : List VI} {K : List (List Nat × List Nat) → VSt → Prop} {as : List SV} {res val : SV} (hc : callable P f = true) (hg : gtest st.env (some g) = some true) (ha : argsOf [] st.box (args.map (·.get st.env)) = some as) (pc : PC P f as (tab []) res (tab [])) (hv : resV [] st.box (2 * d + 1) (tab []) res = some val)
    (h2 : wpD P is (fun acc st' => K (([2 * d + 1], []) :: acc) st') (st.app (some d) { val := val })) : wpD P (⟨some d, some g, .call f args⟩ :: is) K st := by
  refine w_dcons (o := { val := val }) (.inl ⟨hg, ?_⟩) h2
  rcases e_call0 (d := d) hc ha pc hv with ⟨_, h⟩ | ⟨h, _⟩
  · exact h
  · cases h


end

/-! ### reading a state -/
theorem app_env (st : VSt) (d : Nat) (v : SV) (bs : List (Nat × (Nat × Option (List C)))) (i : Nat) : (st.app (some d) { val := v, boxes := bs }).env i = if i = d then v else st.env i := by
  simp only [VSt.app, updDst, updAll, upd]

theorem app_env0 (st : VSt) (v : SV) (bs : List (Nat × (Nat × Option (List C)))) (i : Nat) : (st.app none { val := v, boxes := bs }).env i = st.env i := rfl

theorem app_envS (st : VSt) (d : Option Nat) (v : SV) (s : List (Nat × SV)) (bs : List (Nat × (Nat × Option (List C)))) (i : Nat) : (st.app d { val := v, slots := s, boxes := bs }).env i = updDst (updAll st.env s) d v i := rfl

theorem app_box0 (st : VSt) (d : Option Nat) (v : SV) (s : List (Nat × SV)) (i : Nat) : (st.app d { val := v, slots := s }).box i = st.box i := rfl

theorem app_boxG (st : VSt) (d : Option Nat) (v : SV) (s : List (Nat × SV)) (b : List (Nat × (Nat × Option (List C)))) (i : Nat) : (st.app d { val := v, slots := s, boxes := b }).box i = updAll st.box b i := rfl

theorem app_box1 (st : VSt) (d : Option Nat) (v : SV) (s : List (Nat × SV)) (k : Nat) (x : Nat × Option (List C)) (i : Nat) : (st.app d { val := v, slots := s, boxes := [(k, x)] }).box i = if i = k then x else st.box i := rfl

theorem wrap64 {n : Int} (h1 : -9223372036854775808 ≤ n) (h2 : n < 9223372036854775808) : IntKind.i64.wrap n = n := by
  rw [IntKind.wrap_i64]
  omega

abbrev vi64 (n : Int) : SV := .c (.d (.v (.int .i64 n)))
abbrev vu32 (n : Int) : SV := .c (.d (.v (.int .u32 n)))
abbrev vsl (xs : List (List D)) : SV := .c (.d (.sl xs))
abbrev vb (b : Bool) : SV := .c (.d (.v (.bool b)))

attribute [simp] app_env app_env0 app_envS app_box0 app_boxG back2 VI.keys ptrKey okKeys apartB vexec VX.get SV.copy C.copy SV.elems C.elems vbin vint vstr vbool vun vconv takeOf SV.int? SV.bool? SV.cells SV.stored SV.news bound part spliceC buildParts sliceParts kindC vcellsEq vatomEq place fieldAddrV updDst updAll upd gtest
@[simp] theorem noPtr_d (x : D) : noPtr (.d x) = true := rfl
@[simp] theorem noPtr_nilsl : noPtr .nilsl = true := rfl
@[simp] theorem noPtr_osl (e sz : Nat) (xs : List (List D)) : noPtr (.osl e sz xs) = true := rfl
@[simp] theorem noPtr_cptr (xs : List D) : noPtr (.cptr xs) = true := rfl
@[simp] theorem noPtr_ptr (k v o : Nat) : noPtr (.ptr k v o) = false := rfl
@[simp] theorem noPtr_msl (k v o n : Nat) : noPtr (.msl k v o n) = false := rfl

attribute [simp] mslKey SV.len? resl C.kc KC.c kcsOf argKC argKCs resP KC.isD SV.fn?
attribute [simp] SV.undef wkV wkS wk1 wkL wkC backL newL resOf rvGet renV1 renVs renC ren argsOf argOf argsK argK resV resV1 resVs resC C.toD toDs tab

end Go.V

