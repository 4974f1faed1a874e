/- CollideRivals: slices.Grow of nil. -/
import Derived.Test.YtimdfdmdogeiaaaCA
import Derived.Lib.AppendZeros
import Derived.Lib.Walk
import Derived.Lib.SliceRun
set_option linter.all false
set_option linter.unusedSimpArgs false
set_option linter.unusedVariables false
namespace Go.V
open Go Go.Proofs

set_option maxHeartbeats 2000000 in
set_option maxRecDepth 100000 in
theorem grow_run (z : Value) (i : TypeInfo) (hi : Try.prog.info? 59 = some i) (hz : i.zero = some z) (hs : 0 < i.size) (hby : i.bytes ≤ 1000) (n : Nat) (hn : 0 < n) (hb : n ≤ 1000) (w : World) : Calls Try.prog 30 #[.slice none 0 0, .int .i64 n] w fun e w' =>
    e = .returned (.slice (some ⟨w.heap.size, 0, none⟩) 0 (grownCap w n 0 59)) ∧
    w' = w.drew.alloc (.cells (Builtin.zeroCells z.cells n ++ Builtin.zeroCells z.cells (grownCap w n 0 59 - n)) 59) := by
  have h1 : ¬ ((n : Int) < 0) := by omega
  have h4 : (n : Int) > 0 := by omega
  have hrz : ∀ ty, (Builtin.append_ #[40, 3] ty #[.slice none 0 0, .int .i64 n]).run Try.prog w = _ := fun ty =>
    Lib.run_append_nil_zeros w 40 3 ty 59 i z .i64 .i64 Try.underlying40 Try.underlying3 hi hz n hn hs (by omega) (Nat.le_trans (Nat.mul_le_mul hb hby) (by decide))
  go_enter Try.func30, Try.ntmps30
  go_wp2_with (at_builtin; refine Lib.wpList_append_run _ rfl _ _ _ _ rfl _ _ rfl rfl _ _ (hrz _) ?_)
  all_goals (go_ret; exact ⟨rfl, rfl⟩)


theorem info59 : ∃ i z, Try.prog.info? 59 = some i ∧ i.zero = some z ∧ i.size = 19 ∧ i.bytes = 208 ∧ z.cells.size = 19 := by
  have h : (elemInfo Try.prog 59).map (fun x => (x.1, x.2.1, x.2.2.cells.size)) = some (19, 208, 19) := by kernel_rfl
  obtain ⟨⟨a, b, z⟩, he, hx⟩ := Option.map_eq_some_iff.1 h
  simp only [Prod.mk.injEq] at hx
  obtain ⟨rfl, rfl, hz⟩ := hx
  obtain ⟨i, h1, h2, h3, h4⟩ := elemInfo_spec he
  exact ⟨i, z, h1, h2, h3, h4, hz⟩

theorem zeroCells_size (a : Array Value) (n : Nat) : (Builtin.zeroCells a n).size = n * a.size := size_zeroCells a n

set_option maxRecDepth 100000 in
theorem pc30 (n : Nat) (hn : 0 < n) (hb : n ≤ 1000) : PC Try.prog 30 [.c .nilsl, vi64 n] (tab []) (.c (.osl 59 19 [])) (tab []) := by
  intro w S loc ow vals hvs hH
  obtain ⟨i, z, hi, hz, hs, hby, hzc⟩ := info59
  have h0 : vals.getD 0 undef = .slice none 0 0 := hH.env 0 (by simp)
  have h1 : vals.getD 1 undef = .int .i64 n := RepD.v_inv (hH.env 1 (by simp))
  have hv : vals = #[.slice none 0 0, .int .i64 n] := by
    have h2 : vals.size = 2 := hvs
    apply Array.ext
    · simpa using h2
    · intro j hj1 hj2
      simp only [List.size_toArray, List.length_cons, List.length_nil] at hj2
      rcases (show j = 0 ∨ j = 1 by omega) with rfl | rfl
      · simpa [Array.getD, hj1] using h0
      · simpa [Array.getD, hj1] using h1
  subst hv
  refine (grow_run z i hi hz (by omega) (by omega) n hn hb w).mono ?_
  rintro e w' ⟨rfl, rfl⟩
  have hge := grownCap_ge w n 0 59
  have hle := grownCap_le_maxLen w n 0 59 (by simp only [maxLen]; omega)
  obtain ⟨S', ow', f1, f2, f3, f4, f5, f6⟩ := fresh_core (loc := loc) (e := 59) (sz := 19) hH.sS hH.so (xs := []) (cap := grownCap w n 0 59) (cells := Builtin.zeroCells z.cells n ++ Builtin.zeroCells z.cells (grownCap w n 0 59 - n)) (W := w.drew) (.inr rfl) (by simp) (by simp) hle
    (by rw [Array.size_append, size_zeroCells, size_zeroCells, hzc, ← Nat.add_mul, Nat.add_sub_of_le hge]) (by simp) (fun j x hx => by simp at hx) (.slot 0 0) (.slot 0 0) (tab [])
  refine ⟨S', loc, ow', _, rfl, f3, ⟨f5, f6, fun i hi => ?_, fun k cs hk => ?_⟩, fun _ _ => rfl⟩
  · have : i = 0 := by omega
    subst this
    exact (show RepC S' loc (tab []) ow' (w.drew.alloc (.cells (Builtin.zeroCells z.cells n ++ Builtin.zeroCells z.cells (grownCap w n 0 59 - n)) 59)) (.slot 0 0) (.osl 59 19 []) (.slice (some ⟨w.heap.size, 0, none⟩) 0 (grownCap w n 0 59)) from ⟨f2, by simp, f1⟩)
  · simp [tab] at hk

end Go.V

