/- slices.Chunk, ranged over. -/
import Derived.RangeFuncBox
import Derived.RangeFuncLeaves
import Derived.RangeFuncWrites
import Derived.Shelf.Abstract
import Derived.WalkKit
import Derived.OwnWalkIn
import Derived.TacticsInMore
import Derived.LoopNIn
import Derived.LoopIn
import Derived.Test.YtglmbheeplndpaaAP4
set_option linter.all false
set_option linter.unusedSimpArgs false
set_option linter.unusedVariables false
namespace Go.V
open Go Go.Proofs
open Go.RowKit Go.Shelf

attribute [local go_sem] Oper.semAt_some

set_option maxHeartbeats 1000000 in
theorem chunk_in (F : Fence) (n : Nat) (h5 : F.fn 90) (hro : F.round = none) (a : Option Addr) (len cap : Nat) (w : World) :
    CallsIn F n Try.prog 90 #[.slice a len cap, .int .i64 255] w fun e w' => e = .returned (.func (.func 104) #[] #[.pointer (some ⟨w.heap.size, 0, none⟩), .pointer (some ⟨w.heap.size + 1, 0, none⟩)]) ∧ w' = (w.alloc (.cells #[.slice a len cap] 26)).alloc (.cells #[.int .i64 255] 3) := by
  refine callsIn_of_wp Try.func90 rfl h5 ?_ hro
  simp only [Try.ntmps90, List.size_toArray, List.length_cons, List.length_nil, Nat.reduceAdd, Nat.reduceSub, Array.replicate_succ, Array.replicate_zero, List.push_toArray, List.append_toArray, List.nil_append, List.cons_append]
  gi_wp2
  go_ret
  exact ⟨rfl, rfl⟩

set_option maxRecDepth 100000 in
set_option maxHeartbeats 1000000 in
/-- .. of no numbers: no round. -/
theorem chunk1_nil_in (F : Fence) (n : Nat) (h7 : F.fn 104) (hro : F.round = none) (l Bs Bn : Nat) (a : Option Addr) (cap : Nat) (W : World) (hBs : W.cell? ⟨Bs, 0, none⟩ = some (.slice a 0 cap)) (hBn : W.cell? ⟨Bn, 0, none⟩ = some (.int .i64 255)) :
    CallsIn F n Try.prog 104 #[.func (.yield l) #[] #[], .pointer (some ⟨Bs, 0, none⟩), .pointer (some ⟨Bn, 0, none⟩)] W fun e W' => (∃ v, e = .returned v) ∧ W' = W := by
  refine callsIn_of_wp Try.func104 rfl h7 ?_ hro
  simp only [Try.ntmps104, List.size_toArray, List.length_cons, List.length_nil, Nat.reduceAdd, Nat.reduceSub, Array.replicate_succ, Array.replicate_zero, List.push_toArray, List.append_toArray, List.nil_append, List.cons_append]
  gi_wp2
  gi_loopw [4] (fun i wr => i = .int .i64 0 ∧ wr = W) (fun _ _ => 0)
  case atStart => exact ⟨rfl, rfl⟩
  case round =>
    obtain ⟨rfl, rfl⟩ := hrel
    gi_wp2
    go_end0
    exact ⟨⟨_, rfl⟩, rfl⟩

theorem chunk_stops_nil (F : Fence) (n : Nat) (h7 : F.fn 104) (hro : F.round = none) (Bs Bn n₀ : Nat) (a : Option Addr) (cap : Nat) (w : World) (hBs : Bs < w.heap.size) (hBn : Bn < w.heap.size)
    (hc : w.cell? ⟨Bs, 0, none⟩ = some (.slice a 0 cap)) (hd : w.cell? ⟨Bn, 0, none⟩ = some (.int .i64 255)) :
    SeqStopsK F n Try.prog 104 #[.pointer (some ⟨Bs, 0, none⟩), .pointer (some ⟨Bn, 0, none⟩)] (fun _ : Unit => #[Value.slice none 0 0]) (Below n₀) (fun ys => ys = []) (fun _ => False) 0 w := fun l J Jx W hW _ _ hY h0 => by
  have hc' := (hW.cell (p := ⟨Bs, 0, none⟩) hBs).trans hc
  have hd' := (hW.cell (p := ⟨Bn, 0, none⟩) hBn).trans hd
  exact (chunk1_nil_in F n h7 hro l Bs Bn a cap W hc' hd').mono fun e W' ⟨he, hj⟩ => ⟨he, .inl ⟨[], rfl, by rw [hj]; exact h0⟩⟩

set_option maxRecDepth 100000 in
set_option maxHeartbeats 2000000 in
theorem pieces_nil_in (F : Fence) (n : Nat) (h3 : F.fn 84) (h5 : F.fn 90) (h7 : F.fn 104) (hro : F.round = none) (hn : 3 ≤ n) (a : Option Addr) (cap : Nat) (w : World) :
    CallsIn F n Try.prog 84 #[.slice a 0 cap] w fun e W' => e = .returned (.slice none 0 0) ∧ Below w.heap.size w W' := by
  have h1 : 1 ≤ n := by omega
  refine callsIn_of_wp_marks Try.func84 rfl h3 ?_ hro
  simp only [Try.ntmps84, List.size_toArray, List.length_cons, List.length_nil, Nat.reduceAdd, Nat.reduceSub, Array.replicate_succ, Array.replicate_zero, List.push_toArray, List.append_toArray, List.nil_append, List.cons_append]
  gi_wp2_with (gi_at_call 90; refine (chunk_in F (n - 1) h5 hro _ _ _ _).mono ?_; rintro e w' ⟨rfl, rfl⟩)
  have bO := Boxed.new w 24 (.slice none 0 0)
  have bS := Boxed.new (w.alloc (.cells #[.slice none 0 0] 24)) 26 (.slice a 0 cap)
  have bN := Boxed.new ((w.alloc (.cells #[.slice none 0 0] 24)).alloc (.cells #[.slice a 0 cap] 26)) 3 (.int .i64 255)
  rw [World.size_alloc] at bS
  rw [World.size_alloc, World.size_alloc] at bN
  have hB0 : Below w.heap.size w (((w.alloc (.cells #[.slice none 0 0] 24)).alloc (.cells #[.slice a 0 cap] 26)).alloc (.cells #[.int .i64 255] 3)) := (((Below.refl _ w).alloc (Nat.le_refl _) _).alloc (by simp) _).alloc (by simp; omega) _
  refine wpIn_rangeFunc_ownG hro h1 (gf := 104) (lb := #[.pointer (some ⟨w.heap.size + 1, 0, none⟩), .pointer (some ⟨w.heap.size + 1 + 1, 0, none⟩)]) rfl h7 (enters_of Try.func104 (by kernel_rfl) rfl)
    (chunk_stops_nil F (n - 1) h7 hro (w.heap.size + 1) (w.heap.size + 1 + 1) w.heap.size a cap _ (by simp) (by simp) (bS.alloc _).cell bN.cell) belowK_t (belowK_b (by simp; omega)) (Below.refl _ _) (fun _ => rfl)
    (fun _ W => (W.cell? ⟨w.heap.size, 0, none⟩ = some (.slice none 0 0) ∧ W.frozen? ⟨w.heap.size, 0, none⟩ = false) ∧ Below w.heap.size w W)
    (fun _ _ _ => False)
    (OwnFrom.and (Own.from (fun s A B row hs hg hr => ⟨cell_kept hs.1 hg hr, (frozen_kept hs.1 hg hr).trans hs.2⟩) _) (ownFrom_below (Nat.le_refl _) (by simp; omega)))
    (fun _ _ _ _ _ hs _ _ => hs)
    ⟨⟨((bO.alloc _).alloc _).cell, ((bO.alloc _).alloc _).frozen⟩, hB0⟩
    (fun x => { tmps := #[.slice a 0 cap, undef, .slice none 0 0, .pointer (some ⟨w.heap.size, 0, none⟩), .slice none 0 0, .slice a 0 cap, .func (.func 104) #[] #[.pointer (some ⟨w.heap.size + 1, 0, none⟩), .pointer (some ⟨w.heap.size + 1 + 1, 0, none⟩)], .slice none 0 0, undef, undef, undef, undef, undef, undef, undef], defers := [] }) ?assign ?body ?done ?stop
  case assign =>
    intro l x W K hK
    gi_wp2
    exact hK
  case body =>
    rintro l pre x W _ h
    exact absurd h (Nat.not_lt_zero _)
  case done =>
    rintro D ys W hD rfl ⟨⟨hc, _⟩, hB⟩ hK
    gi_wp2
    refine ⟨by simp, .inl ⟨_, _, rfl, run_takeDeferred hK, ?_⟩⟩
    exact ⟨_, results_tmp rfl _ _ _, rfl, hB.trans (belowK_b (w := w) (Nat.le_refl _) W D _ _ (by simp at hD; omega) hK rfl rfl)⟩
  case stop =>
    rintro D c pre W _ h _ _
    exact h.elim

/-- No numbers are no pieces. -/
theorem pc_pieces0 : PC Try.prog 84 [vsl []] (tab []) (.c .nilsl) (tab []) := by
  intro w S loc ow vals hvs hH
  have h0 : ∃ a cap, vals.getD 0 undef = .slice a 0 cap := by
    obtain ⟨a, c, h, _⟩ := RepD.sl_inv (show RepD S w (.sl []) _ from hH.env 0 (by simp))
    exact ⟨a, c, h⟩
  obtain ⟨a, cap, h0⟩ := h0
  have hv : vals = #[.slice a 0 cap] := by
    have h2 : vals.size = 1 := hvs
    apply Array.ext
    · simpa using h2
    · intro j hj1 hj2
      simp only [List.size_toArray, List.length_cons, List.length_nil] at hj2
      obtain rfl : j = 0 := by omega
      simpa [Array.getD, hj1] using h0
  subst hv
  refine (calls_FW (r := none) (n := 3) (pieces_nil_in (FW none) 3 trivial trivial trivial rfl (by omega) a cap w)).mono ?_
  rintro e w' ⟨rfl, hB⟩
  refine ⟨S, loc, fun b => ow b, _, rfl, ⟨hB.os, hB.tape, hB.output, hB.size, fun b hb ho => ⟨hB.block b hb, ho, fun _ => Iff.rfl⟩, fun b o hs => ⟨hs, hB.cell (p := ⟨b, o, none⟩) (hH.sS b o hs)⟩⟩, ⟨fun b o hs => Nat.lt_of_lt_of_le (hH.sS b o hs) hB.size, fun b p hb => Nat.lt_of_lt_of_le (hH.so b p hb) hB.size, fun i hi => ?_, fun k cs hk => ?_⟩, fun _ _ => rfl⟩
  · have : i = 0 := by omega
    subst this
    exact rfl
  · simp [tab] at hk

end Go.V

