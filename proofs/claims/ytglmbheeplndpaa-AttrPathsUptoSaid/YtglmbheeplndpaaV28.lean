/- The value machine, part 28: calls of values. -/
import Derived.Test.YtglmbheeplndpaaV27
set_option linter.all false
set_option linter.unusedSimpArgs false
set_option linter.unusedVariables false
namespace Go.V
open Go

section
variable {P : Program} {st : VSt}

/-- A call of a function's value that has captured nothing; nothing is lent. -/
theorem w_callV0 {d : Nat} {fn : VX} {f : FuncId} {args : List VX} {is : List VI} {K : VSt → Prop} {as : List SV} {res val : SV} (hf : (fn.get st.env).fn? = some (f, [])) (hc : callable P f = true) (ha : argsOf [] st.box (args.map (·.get st.env)) = some as) (pc : PC P f as (tab []) res (tab [])) (hv : resV [] st.box (2 * d + 1) (tab []) res = some val)
    (h2 : wpI P is K (st.app (some d) { val := val })) : wpI P (⟨some d, none, .callV fn args⟩ :: is) K st := by
  refine w_cons (o := { val := val }) (.inl ⟨rfl, ?_⟩) h2
  rcases e_call0 (d := d) hc ha pc hv with ⟨_, h⟩ | ⟨h, _⟩
  · exact ⟨f, [], hf, by rw [List.append_nil]; exact h⟩
  · cases h

/-- A call that lends nothing and gives a new box. -/
theorem w_callN0 {d : Nat} {f : FuncId} {args : List VX} {is : List VI} {K : VSt → Prop} {cs : List C} {as : List SV} {res val : SV} (hc : callable P f = true)
    (ha : argsOf [] st.box (args.map (·.get st.env)) = some as) (pc : PC P f as (tab []) res (tab [cs])) (hnp' : (cs.all noPtr) = true) (hv : resV [] st.box (2 * d + 1) (tab [cs]) res = some val)
    (h2 : wpI P is K (st.app (some d) { val := val, boxes := [(2 * d + 1, ((st.box (2 * d + 1)).1 + 1, some cs))] })) : wpI P (⟨some d, none, .call f args⟩ :: is) K st :=
  w_callN [] (css := []) (css' := []) (cs := cs) hc List.nodup_nil (by simp) rfl rfl ha pc rfl (by simpa using hnp') hv h2

/-- A call that lends boxes, in a region whose order is drawn. -/
theorem d_call {d : Nat} {f : FuncId} {args : List VX} {is : List VI} {K : List (List Nat × List Nat) → VSt → Prop} (ks : List Nat) {css css' : List (List C)} {as : List SV} {res val : SV} (hc : callable P f = true) (hnd : ks.Nodup) (hk : (2 * d + 1) ∉ ks) (hcs : ks.map (fun k => (st.box k).2) = css.map some) (hnp : (css.all fun cs => cs.all noPtr) = true)
    (ha : argsOf ks st.box (args.map (·.get st.env)) = some as) (pc : PC P f as (tab css) res (tab css')) (hl : css'.length = css.length) (hnp' : (css'.all fun cs => cs.all noPtr) = true) (hv : resV ks st.box (2 * d + 1) (tab css') res = some val)
    (h2 : wpD P is (fun acc st' => K (([2 * d + 1], (back2 st.box ks css').map (·.1)) :: acc) st') (st.app (some d) { val := val, boxes := back2 st.box ks css' })) : wpD P (⟨some d, none, .call f args⟩ :: is) K st := w_dcons (e_call ks hc hnd hk hcs hnp ha pc hl hnp' hv) h2

/-- Of a state let only be known what is needed behind. -/
theorem w_genI {is : List VI} {K : VSt → Prop} (C : VSt → Prop) (h0 : C st) (h : ∀ st', C st' → wpI P is K st') : wpI P is K st := h _ h0
theorem w_genV {c : VC} {Q : VQ} (C : VSt → Prop) (h0 : C st) (h : ∀ st', C st' → wpV P c Q st') : wpV P c Q st := h _ h0

end
end Go.V

