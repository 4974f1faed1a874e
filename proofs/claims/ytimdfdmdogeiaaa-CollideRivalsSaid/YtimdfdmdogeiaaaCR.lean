/- What becomes of a session when an Open comes on another link: the statement, from the law's contract. -/
import Derived.Test.YtimdfdmdogeiaaaCP20
import Derived.Test.YtimdfdmdogeiaaaV26
set_option linter.all false
set_option linter.unusedSimpArgs false
set_option linter.unusedVariables false
namespace Go.Proofs.Ytimdfdmdogeiaaa.done26
open Go Go.V Go.ChangeShapes Go.WideShapes Go.ChangeAt Go.RowKit
open Go.ChangeMaps (open_string shut_string)

theorem own : ownKnob Try.prog.godebug = none := by kernel_rfl
theorem laidOut : laidOutB Try.prog = true := by kernel_rfl

abbrev sp : List TS := [.st [.i .u32, .i .u32, .i .u32, .i .i64, .i .i64, .b], .st [.i .i64, .i .i64, .i .i64, .i .i64, .i .i64, .st [.i .u32, .i .i64, .i .u32, .b]], .st [.b, .st [.i .u32, .i .i64, .i .u32, .b]]]

theorem sd_of {a : List D} (h : okS (.st [.i .u32, .i .u32, .i .u32, .i .i64, .i .i64, .b]) a) : ∃ s : Sd, a.map .d = s.cs ∧ 0 ≤ s.peer ∧ s.peer < 4294967296 := by
  simp only [okS, okSs] at h
  obtain ⟨_, _, rfl, ⟨s1, _, rfl⟩, _, _, rfl, ⟨s2, _, rfl⟩, _, _, rfl, ⟨s3, w3, rfl⟩, _, _, rfl, ⟨s4, _, rfl⟩, _, _, rfl, ⟨s5, _, rfl⟩, _, _, rfl, ⟨s6, rfl⟩, rfl⟩ := h
  have hb : 0 ≤ s3 ∧ s3 < 4294967296 := by
    simp [Lit.wf, IntKind.has, IntKind.min, IntKind.max, IntKind.signed, IntKind.bits] at w3
    omega
  exact ⟨⟨s1, s2, s3, s4, s5, s6⟩, rfl, hb⟩

theorem fs_of {a : List D} (h : okS (.st [.i .i64, .i .i64, .i .i64, .i .i64, .i .i64, .st [.i .u32, .i .i64, .i .u32, .b]]) a) : ∃ f : Fs, a.map .d = f.cs := by
  simp only [okS, okSs] at h
  obtain ⟨_, _, rfl, ⟨f1, _, rfl⟩, _, _, rfl, ⟨f2, _, rfl⟩, _, _, rfl, ⟨f3, _, rfl⟩, _, _, rfl, ⟨f4, _, rfl⟩, _, _, rfl, ⟨f5, _, rfl⟩, _, _, rfl, ⟨_, _, rfl, ⟨p1, _, rfl⟩, _, _, rfl, ⟨p2, _, rfl⟩, _, _, rfl, ⟨p3, _, rfl⟩, _, _, rfl, ⟨p4, rfl⟩, rfl⟩, rfl⟩ := h
  exact ⟨⟨f1, f2, f3, f4, f5, ⟨p1, p2, p3, p4⟩⟩, rfl⟩

theorem ot_of {a : List D} (h : okS (.st [.b, .st [.i .u32, .i .i64, .i .u32, .b]]) a) : ∃ ours o, a.map .d = otherC ours o := by
  simp only [okS, okSs] at h
  obtain ⟨_, _, rfl, ⟨ours, rfl⟩, _, _, rfl, ⟨_, _, rfl, ⟨o1, _, rfl⟩, _, _, rfl, ⟨o2, _, rfl⟩, _, _, rfl, ⟨o3, _, rfl⟩, _, _, rfl, ⟨o4, rfl⟩, rfl⟩, rfl⟩ := h
  exact ⟨ours, ⟨o1, o2, o3, o4⟩, rfl⟩

theorem law (dss : List (List D)) (h : okAllS sp dss) : PC Try.prog 3 (svTs sp dss) (tab []) (vb true) (tab []) := by
  obtain ⟨a, r, rfl, ha, h⟩ := okAllS_cons h
  obtain ⟨b, r, rfl, hb, h⟩ := okAllS_cons h
  obtain ⟨c, r, rfl, hc, h⟩ := okAllS_cons h
  cases okAllS_nil h
  obtain ⟨s, hs, k1, k2⟩ := sd_of ha
  obtain ⟨f, hf⟩ := fs_of hb
  obtain ⟨ours, o, ho⟩ := ot_of hc
  have e : svTs sp [a, b, c] = [.agg (a.map .d), .agg (b.map .d), .agg (c.map .d)] := rfl
  rw [e, hs, hf, ho]
  exact law26 cat3 s f ours o k1 k2

set_option maxRecDepth 100000 in
theorem lifted (os : Os) (started : os.Started) (H : Type) (enc : TypeId × Value → H) :
    ReturnsInHanded {} Try.checked os 3 .any (Rows.collideRivalsSpec.pre6 enc Try.prog Try.f3 Rows.collideRivalsRow.domain false) (Rows.collideRivalsSpec.post enc Try.prog Try.f3 false true false false) := by
  refine returnsInHanded_of_change (C := Try.checked) own started (by kernel_rfl) Try.func3
    (ChangeSpec.witness6 (enc := enc) (C := Try.checked) false ⟨#[], #[.agg #[.int .u32 0, .int .u32 0, .int .u32 0, .int .i64 0, .int .i64 0, .bool false], .agg #[.int .i64 0, .int .i64 0, .int .i64 0, .int .i64 0, .int .i64 0, .int .u32 0, .int .i64 0, .int .u32 0, .bool false], .agg #[.bool false, .int .u32 0, .int .i64 0, .int .u32 0, .bool false]], []⟩ 8 (by kernel_rfl) (by kernel_rfl) (by kernel_rfl) (by kernel_rfl)) ?_
  intro W base args ds gs before hval0 hW hcnd _
  have hval : ∀ (j : Nat) t v, Try.f3.params[j]? = some t → args[j]? = some v → Value.okWide Try.prog W .any base t v := hval0
  have hW' := hW
  obtain ⟨p, q, hA0, hV, rfl, hfz, hnd⟩ := hW
  have hA : DataW.TrodAll enc Try.prog W 0 (fun _ => true) true Try.f3.params.toList args.toList ds p := hA0
  rw [Try.params3] at hA hval
  have hlaw := law_row (f := 3) (k := 6) (sp := sp) (by kernel_rfl) (by kernel_rfl) (.inl (by kernel_rfl)) (fun j t v ht hv => hval j t v (by simpa using ht) (by simpa using hv)) hA (fun dss h _ => law dss h)
  obtain ⟨v0, vs0, d0, ds0, p0, q0, hargs, rfl, rfl, h0, r0⟩ := trodAll_cons hA
  obtain ⟨v1, vs1, d1, ds1, p1, q1, rfl, rfl, rfl, h1, r1⟩ := trodAll_cons r0
  obtain ⟨v2, vs2, d2, ds2, p2, q2, rfl, rfl, rfl, h2, r2⟩ := trodAll_cons r1
  obtain ⟨rfl, rfl, rfl⟩ := trodAll_nil r2
  obtain rfl : args = #[v0, v1, v2] := by cases args; simp_all
  obtain ⟨rfl, rfl⟩ := trodVars_none hV
  have lt0 : ∀ x ∈ p0, x.block < W.heap.size := by obtain ⟨m, hm⟩ := h0; exact DataW.trod_lt m _ _ _ hm
  have lt1 : ∀ x ∈ p1, x.block < W.heap.size := by obtain ⟨m, hm⟩ := h1; exact DataW.trod_lt m _ _ _ hm
  have lt2 : ∀ x ∈ p2, x.block < W.heap.size := by obtain ⟨m, hm⟩ := h2; exact DataW.trod_lt m _ _ _ hm
  clear hA0 hval0
  refine hlaw.mono fun e W' ⟨he, bel⟩ => ?_
  subst he
  exact ⟨_, rfl, _, _, _, [], _, [], hW', trodAll_mk1 (shut_bool Try.underlying4 _), (trodAll_cons_mk (Below.trod laidOut (by kernel_rfl) (of_decide_eq_true (by kernel_rfl)) h0 bel lt0) (trodAll_cons_mk (Below.trod laidOut (by kernel_rfl) (of_decide_eq_true (by kernel_rfl)) h1 bel lt1) (trodAll_cons_mk (Below.trod laidOut (by kernel_rfl) (of_decide_eq_true (by kernel_rfl)) h2 bel lt2) trodAll_mk0))), rfl, bel.frame _, fun h => by cases h⟩

theorem over : Rows.collideRivalsRow.holds Try.pinned (OpenSpec.ofChange Rows.collideRivalsSpec) :=
  OpenClaim.holds_of_wide 3 Try.f3 rfl rfl rfl rfl rfl rfl rfl ⟨rfl, rfl, rfl, rfl, rfl⟩ rfl rfl rfl rfl rfl (by kernel_rfl) Try.func3 (by kernel_rfl)
    (of_decide_eq_true (by kernel_rfl)) (by unfold Func.isWrapper; first | (rw [if_pos (by decide +kernel)]; kernel_rfl) | (rw [if_neg (by decide +kernel)]; exact ⟨rfl, rfl⟩))
    (fun os started H enc _ => lifted os started H enc)

theorem proved : Rows.CollideRivalsSaid := over
#print axioms proved
end Go.Proofs.Ytimdfdmdogeiaaa.done26

