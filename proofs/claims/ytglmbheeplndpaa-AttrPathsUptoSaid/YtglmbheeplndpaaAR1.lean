/- The pieces of any path's bytes: the statement, from the law's contract. -/
import Derived.Test.YtglmbheeplndpaaAT5
import Derived.Test.YtglmbheeplndpaaV26
import Derived.JoinedCond
set_option linter.all false
set_option linter.unusedSimpArgs false
set_option linter.unusedVariables false
namespace Go.Proofs.Ytglmbheeplndpaa.attrPaths
open Go Go.V Go.ChangeShapes Go.WideShapes Go.ChangeAt Go.RowKit
open Go.ChangeMaps (open_string shut_string)

theorem own : ownKnob Try.prog.godebug = none := by kernel_rfl
theorem laidOut : laidOutB Try.prog = true := by kernel_rfl

theorem bytes_of {xs : List (List D)} (h : ∀ x ∈ xs, okS (.i .u8) x) : ∃ l, xs = u8s l ∧ okB l := by
  induction xs with
  | nil => exact ⟨[], rfl, fun n hn => by cases hn⟩
  | cons x r ih =>
    obtain ⟨l, rfl, hl⟩ := ih (fun y hy => h y (List.mem_cons_of_mem _ hy))
    have hx := h x (List.mem_cons_self ..)
    simp only [okS] at hx
    obtain ⟨n, wn, rfl⟩ := hx
    have hb : 0 ≤ n ∧ n < 256 := by
      simp [Lit.wf, IntKind.has, IntKind.min, IntKind.max, IntKind.signed, IntKind.bits] at wn
      omega
    exact ⟨n :: l, rfl, fun m hm => by
      rcases List.mem_cons.1 hm with rfl | hm
      · exact hb
      · exact hl m hm⟩

abbrev sp : List TS := [.sl (.i .u8)]

theorem law (dss : List (List D)) (h : okAllS sp dss) (hb : bulkLL dss ≤ 1048576) : PC Try.prog 4 (svTs sp dss) (tab []) (vb true) (tab []) := by
  obtain ⟨a, r, rfl, ha, h⟩ := okAllS_cons h
  cases okAllS_nil h
  simp only [okS] at ha
  obtain ⟨xs, rfl, hx⟩ := ha
  obtain ⟨l, rfl, hl⟩ := bytes_of hx
  have hlen := bulkLL_len (u8s l) (fun x hx => by rw [u8s_mem l x hx]; decide)
  simp only [bulkLL, bulkL, D.bulk, u8s_len] at hb hlen
  exact pc_AttrPaths l (by omega) hl

set_option maxRecDepth 100000 in
theorem contract (H : Type) (enc : TypeId × Value → H) (W : World) (base : Nat) (args : Array Value) (ds gs : List (DataW H)) (before : List MemPlace)
    (hval0 : ∀ (j : Nat) t v, Try.f4.params[j]? = some t → args[j]? = some v → Value.okWide Try.prog W .any base t v)
    (hW : DataW.Whole enc Try.prog Try.f4.params.toList Rows.attrPathsSpec.vars false W args.toList ds gs before) (hk : Rows.uptoSmall H (ds ++ gs) = true) :
    Calls Try.prog 4 args W fun e W' => ∃ v, e = .returned v ∧ Rows.attrPathsSpec.post enc Try.prog Try.f4 false true false false W args v W' := by
  have hb := of_decide_eq_true hk
  have hval : ∀ (j : Nat) t v, Try.f4.params[j]? = some t → args[j]? = some v → Value.okWide Try.prog W .any base t v := hval0
  have hW' := hW
  obtain ⟨p, q, hA0, hV, rfl, hfz, hnd⟩ := hW
  have hA : DataW.TrodAll enc Try.prog W 0 (fun _ => true) true Try.f4.params.toList args.toList ds p := hA0
  rw [Try.params4] at hA hval
  rw [uptoAll_append] at hb
  have hlaw := law_row (f := 4) (k := 6) (sp := sp) (by kernel_rfl) (by kernel_rfl) (.inr (by omega)) (fun j t v ht hv => hval j t v (by simpa using ht) (by simpa using hv)) hA (fun dss h hd => law dss h (by omega))
  obtain ⟨v0, vs0, d0, ds0, p0, q0, hargs, rfl, rfl, h0, r0⟩ := trodAll_cons hA
  obtain ⟨rfl, rfl, rfl⟩ := trodAll_nil r0
  obtain rfl : args = #[v0] := by cases args; simp_all
  obtain ⟨rfl, rfl⟩ := trodVars_none hV
  have lt0 : ∀ x ∈ p0, x.block < W.heap.size := by obtain ⟨m, hm⟩ := h0; exact DataW.trod_lt m _ _ _ hm
  clear hA0 hval0
  refine hlaw.mono fun e W' ⟨he, bel⟩ => ?_
  subst he
  exact ⟨_, rfl, _, _, _, [], _, [], hW', trodAll_mk1 (shut_bool Try.underlying4 _), (trodAll_cons_mk (Below.trod laidOut (by kernel_rfl) (of_decide_eq_true (by kernel_rfl)) h0 bel lt0) trodAll_mk0), rfl, bel.frame _, fun h => by cases h⟩

set_option maxRecDepth 100000 in
theorem lifted (os : Os) (started : os.Started) (H : Type) (enc : TypeId × Value → H) (F : Stop.Interp) :
    ReturnsInHanded {} Try.checked os 4 .any ((Rows.OpenSpec.upto Rows.attrPathsSpec).pre6 enc Try.prog Try.f4 Rows.attrPathsUptoRow.domain false) (((Rows.OpenSpec.upto Rows.attrPathsSpec).at F).post enc Try.prog Try.f4 false true false false) := by
  refine returnsInHanded_of_cond (C := Try.checked) (s := Rows.OpenSpec.upto Rows.attrPathsSpec) (k := Rows.uptoSmall) rfl own started (by kernel_rfl) Try.func4
    (OpenSpec.witness (enc := enc) (C := Try.checked) (s := Rows.OpenSpec.upto Rows.attrPathsSpec) (k := Rows.uptoSmall) rfl false ⟨#[], #[.slice none 0 0], []⟩ 8 (by kernel_rfl) (by kernel_rfl) (by kernel_rfl)
      (x := ([.nil], [], [])) (by kernel_rfl) rfl (by kernel_rfl)) ?_
  intro W base args ds gs before hval hW _ hk _
  exact contract H enc W base args ds gs before hval hW hk

theorem over : Rows.attrPathsUptoRow.holds Try.pinned (Rows.OpenSpec.upto Rows.attrPathsSpec) :=
  OpenClaim.holds_of_cond 4 Try.f4 rfl rfl rfl rfl rfl rfl rfl ⟨rfl, rfl, rfl, rfl, rfl⟩ rfl rfl rfl rfl rfl (by kernel_rfl) Try.func4 (by kernel_rfl)
    (of_decide_eq_true (by kernel_rfl)) (by unfold Func.isWrapper; first | (rw [if_pos (by decide +kernel)]; kernel_rfl) | (rw [if_neg (by decide +kernel)]; exact ⟨rfl, rfl⟩))
    (fun os started H enc _ F => lifted os started H enc F)

theorem proved : Rows.AttrPathsUptoSaid := over
#print axioms proved
end Go.Proofs.Ytglmbheeplndpaa.attrPaths

