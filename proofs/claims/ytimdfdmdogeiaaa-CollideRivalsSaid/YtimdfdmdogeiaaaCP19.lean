/- CollideRivals: the law, given Concat. -/
import Derived.Test.YtimdfdmdogeiaaaCP18
set_option linter.all false
set_option linter.unusedSimpArgs false
set_option linter.unusedVariables false
namespace Go.V
open Go Go.Proofs

/-- An Open comes on the other link: what both sides make of it. -/
theorem third_step (s : Sd) (o : Opn) (h0 : 0 ≤ s.peer) (h1 : s.peer < 4294967296) : ∃ (f3 : Fs) (m : Msg) (cn cl up lost : Bool), OkMsg m ∧
    PC Try.prog 22 [.agg s.cs, .agg upF.cs, .agg (evC 6 ⟨1, o, 0, 0, []⟩ 0 0 [])] (tab []) (.tup [.agg f3.cs, .agg (otC [m.ds] cn cl up lost)]) (tab []) ∧
    PC Try.prog 17 [.agg s.cs, .agg upF.cs, .agg (evC 6 ⟨1, o, 0, 0, []⟩ 0 0 [])] (tab []) (.tup [.agg f3.cs, .agg (otC [m.ds] cn cl up lost)]) (tab []) := by
  by_cases hj : (judgeV o s.peer s.id).1 = 0
  · refine ⟨openF s o, keepM, false, false, false, false, ⟨.inr (.inr rfl), [], rfl⟩, ?_, ?_⟩
    · exact pc22 s upF (openF s o) 6 ⟨1, o, 0, 0, []⟩ 0 0 [] _ _ _ _ _ (pc29 s upF (openF s o) 6 ⟨1, o, 0, 0, []⟩ 0 0 [] [keepM.ds] (.osl 59 19 [keepM.ds]) rfl rfl rfl _ _ _ _ (pc37n s upF rfl o hj))
    · exact pc17m s upF (openF s o) rfl o _ _ _ _ _ (pc27n s upF rfl o h0 h1 hj)
  · refine ⟨idleF s, badM o s, false, true, false, false, ⟨.inr (.inl ⟨rfl, rfl⟩), ?_⟩, ?_, ?_⟩
    · unfold badM judgeV
      split
      · exact ⟨[], rfl⟩
      · split
        · exact ⟨[], rfl⟩
        · split
          · exact ⟨_, rfl⟩
          · exact ⟨[], rfl⟩
    · exact pc22 s upF (idleF s) 6 ⟨1, o, 0, 0, []⟩ 0 0 [] _ _ _ _ _ (pc29 s upF (idleF s) 6 ⟨1, o, 0, 0, []⟩ 0 0 [] [(badM o s).ds] (.osl 59 19 [(badM o s).ds]) rfl rfl rfl _ _ _ _ (pc37f s upF rfl o hj))
    · exact pc17m s upF (idleF s) rfl o _ _ _ _ _ (pc27f s upF rfl o h0 h1 hj)

/-- The session that there is is closed: what both sides make of it. -/
theorem first_step (s : Sd) (f : Fs) : ∃ (f1 : Fs) (ms : List Msg) (cn cl up lost : Bool), (∀ m ∈ ms, OkMsg m) ∧ ms.length ≤ 1 ∧
    PC Try.prog 22 [.agg s.cs, .agg f.cs, .agg (evC 8 noMsg 6 7 [])] (tab []) (.tup [.agg f1.cs, .agg (otC (ms.map Msg.ds) cn cl up lost)]) (tab []) ∧
    PC Try.prog 17 [.agg s.cs, .agg f.cs, .agg (evC 8 noMsg 6 7 [])] (tab []) (.tup [.agg f1.cs, .agg (otC (ms.map Msg.ds) cn cl up lost)]) (tab []) := by
  by_cases hf : f.state = 0
  · refine ⟨f, [], false, false, false, false, by simp, by simp, ?_, ?_⟩
    · exact pc22 s f f 8 noMsg 6 7 [] _ _ _ _ _ (pc29 s f f 8 noMsg 6 7 [] [] .nilsl rfl rfl rfl _ _ _ _ (pc37i s f hf 6 7 []))
    · exact pc17i s f hf 6 7 []
  · cases hl : linkedV f with
    | true =>
      refine ⟨idleF s, [⟨3, noOpn, 6, 7, []⟩], false, true, false, f.state == 5, ?_, by simp, ?_, ?_⟩
      · intro m hm
        simp only [List.mem_singleton] at hm
        subst hm
        exact ⟨.inr (.inl ⟨rfl, rfl⟩), [], rfl⟩
      · exact pc22 s f (idleF s) 8 noMsg 6 7 [] _ _ _ _ _ (pc29 s f (idleF s) 8 noMsg 6 7 [] [(⟨3, noOpn, 6, 7, []⟩ : Msg).ds] (.osl 59 19 [(⟨3, noOpn, 6, 7, []⟩ : Msg).ds]) rfl rfl rfl _ _ _ _ (pc37c1 s f hf hl 6 7 (by decide) [] (by simp) (by simp)))
      · exact pc17c1 s f hf hl 6 7 (by decide) []
    | false =>
      refine ⟨idleF s, [], false, f.state == 1, false, f.state == 5, by simp, by simp, ?_, ?_⟩
      · exact pc22 s f (idleF s) 8 noMsg 6 7 [] _ _ _ _ _ (pc29 s f (idleF s) 8 noMsg 6 7 [] [] .nilsl rfl rfl rfl _ _ _ _ (pc37c0 s f hf hl 6 7 [] (by simp) (by simp)))
      · exact pc17c0 s f hf hl 6 7 []

theorem law26 (hcat : Cat3) (s : Sd) (f : Fs) (ours : Bool) (o : Opn) (h0 : 0 ≤ s.peer) (h1 : s.peer < 4294967296) :
    PC Try.prog 3 [.agg s.cs, .agg f.cs, .agg (otherC ours o)] (tab []) (vb true) (tab []) := by
  obtain ⟨f1, ms, cn1, cl1, up1, lost1, k1, k2, k3, k4⟩ := first_step s f
  obtain ⟨f3, m3, cn3, cl3, up3, lost3, j1, j2, j3⟩ := third_step s o h0 h1
  have l1 : ∀ x ∈ ms.map Msg.ds, x.length = 19 := by
    intro x hx
    obtain ⟨m, _, rfl⟩ := List.mem_map.1 hx
    rfl
  have l3 : ∀ x ∈ [m3.ds], x.length = 19 := by simp
  have h22 := pc22 s actF upF 3 noMsg 0 0 [] _ _ _ _ _ (pc29 s actF upF 3 noMsg 0 0 [] [(helloV s).ds] (.osl 59 19 [(helloV s).ds]) rfl rfl rfl _ _ _ _ (pc37u s actF rfl))
  have h16 := pc16 hcat s f f1 f3 o (ms.map Msg.ds) [m3.ds] _ _ _ _ _ _ _ _ l1 l3 (by simpa using k2) (by simp) k3 h22 j2
  have h10 := pc10 s f f1 f3 o (ms.map Msg.ds) [m3.ds] _ _ _ _ _ _ _ _ l1 l3 (by simpa using k2) (by simp) k4 j3
  have e : ms.map Msg.ds ++ [(helloV s).ds] ++ [m3.ds] = (ms ++ [helloV s] ++ [m3]).map Msg.ds := by simp
  rw [e] at h16 h10
  refine pc3 s f f3 ours o (ms ++ [helloV s] ++ [m3]) ?_ (by simp; omega) cl1 lost1 h16 h10
  intro m hm
  simp only [List.append_assoc, List.cons_append, List.nil_append, List.mem_append, List.mem_cons, List.not_mem_nil, or_false] at hm
  rcases hm with hm | rfl | rfl
  · exact k1 m hm
  · exact ⟨.inl ⟨rfl, rfl, rfl, rfl⟩, [], rfl⟩
  · exact j1

end Go.V

