/- The value machine, part 26: from the data that a row reads to the machine's data, and from a law's contract to its call. -/
import Derived.Test.YtglmbheeplndpaaV25
import Derived.Test.YtglmbheeplndpaaRows
import Derived.DataReads
import Derived.ChangeShapes
import Derived.WideShapes
import Derived.ChangeMaps5
import Derived.RowKit
import Derived.Below
import Derived.Carry
import Derived.ProofKit
import Derived.OpenShut
import Derived.ShutString
import Derived.ChangeOld
set_option linter.all false
set_option linter.unusedSimpArgs false
set_option linter.unusedVariables false
namespace Go.V
open Go Go.ChangeShapes Go.WideShapes Go.ChangeAt Go.RowKit

mutual
def D.bulk : D → Nat
  | .v (.string s) => s.size + 1
  | .v _ => 1
  | .sl xs => bulkLL xs + 1
def bulkL : List D → Nat
  | [] => 0
  | x :: r => x.bulk + bulkL r
def bulkLL : List (List D) → Nat
  | [] => 0
  | x :: r => bulkL x + bulkLL r
end

theorem bulkL_append (a b : List D) : bulkL (a ++ b) = bulkL a + bulkL b := by
  induction a with
  | nil => simp [bulkL]
  | cons x r ih => simp only [List.cons_append, bulkL, ih]; omega

theorem bulkLL_append (a b : List (List D)) : bulkLL (a ++ b) = bulkLL a + bulkLL b := by
  induction a with
  | nil => simp [bulkLL]
  | cons x r ih => simp only [List.cons_append, bulkLL, ih]; omega

theorem D.bulk_pos (x : D) : 1 ≤ x.bulk := by
  cases x with
  | v x => cases x <;> simp [D.bulk]
  | sl xs => simp [D.bulk]

theorem bulkL_len (l : List D) : l.length ≤ bulkL l := by
  induction l with
  | nil => simp [bulkL]
  | cons x r ih => have := x.bulk_pos; simp only [List.length_cons, bulkL]; omega

theorem bulkLL_len (l : List (List D)) (h : ∀ x ∈ l, 0 < x.length) : l.length ≤ bulkLL l := by
  induction l with
  | nil => simp [bulkLL]
  | cons x r ih =>
    have h1 := bulkL_len x
    have h2 := h x (by simp)
    have h3 := ih (fun y hy => h y (by simp [hy]))
    simp only [List.length_cons, bulkLL]
    omega

theorem bulkL_mem {l : List D} {x : D} (h : x ∈ l) : x.bulk ≤ bulkL l := by
  induction l with
  | nil => cases h
  | cons y r ih =>
    simp only [bulkL]
    rcases List.mem_cons.1 h with rfl | h
    · omega
    · have := ih h; omega

theorem bulkLL_mem {l : List (List D)} {x : List D} (h : x ∈ l) : bulkL x ≤ bulkLL l := by
  induction l with
  | nil => cases h
  | cons y r ih =>
    simp only [bulkLL]
    rcases List.mem_cons.1 h with rfl | h
    · omega
    · have := ih h; omega

section
variable (P : Program)

def tiles : Nat → List Field → Nat → Bool
  | o, [], n => o == n
  | o, f :: r, n => f.offset == o && tiles (o + P.cellsOf f.type) r n

/-- Types whose values are plain data. -/
def plainTy : Nat → TypeId → Bool
  | 0, _ => false
  | k + 1, t =>
    match P.underlying t with
    | some .bool => P.cellsOf t == 1
    | some (.int _) => P.cellsOf t == 1
    | some .string => P.cellsOf t == 1
    | some (.slice e) => P.cellsOf t == 1 && decide (0 < P.cellsOf e) && plainTy k e
    | some (.struct fs) => tiles P 0 fs.toList (P.cellsOf t) && fs.toList.all fun f => plainTy k f.type
    | _ => false

/-- Types of bools, numbers and texts alone. -/
def noSl : Nat → TypeId → Bool
  | 0, _ => false
  | k + 1, t =>
    match P.underlying t with
    | some (.slice _) => false
    | some (.struct fs) => fs.toList.all fun f => noSl k f.type
    | _ => true

/-- Data of a type. -/
def okD : Nat → TypeId → List D → Prop
  | 0, _, _ => False
  | k + 1, t, ds =>
    match P.underlying t with
    | some .bool => ∃ b, ds = [.v (.bool b)]
    | some (.int kd) => ∃ n, (Lit.int kd n).wf = true ∧ ds = [.v (.int kd n)]
    | some .string => ∃ s : ByteArray, s.size ≤ maxLen ∧ ds = [.v (.string s)]
    | some (.slice e) => ∃ xs, ds = [.sl xs] ∧ ∀ x ∈ xs, okD k e x
    | some (.struct fs) => fs.toList.foldr (fun f Q ds => ∃ a b, ds = a ++ b ∧ okD k f.type a ∧ Q b) (fun ds => ds = []) ds
    | _ => False

/-- The data of the arguments, one behind the other. -/
def okAll (k : Nat) : List TypeId → List (List D) → Prop
  | [], [] => True
  | t :: ts, ds :: dss => okD P k t ds ∧ okAll k ts dss
  | _, _ => False

def svOf (t : TypeId) (ds : List D) : SV :=
  match P.underlying t, ds with
  | some (.struct _), ds => .agg (ds.map .d)
  | _, [x] => .c (.d x)
  | _, _ => .undef
end

def inHeap (w : World) : Stab := fun b _ => b < w.heap.size

section
open Go.Proofs.Ytglmbheeplndpaa.Rows (uptoBulk uptoBulkAll)

theorem mapM_data {α β : Type} {f : α → Option β} {Q : α → List D → Prop} {B : β → Nat} : ∀ {l : List α} {ys : List β}, l.mapM f = some ys →
    (∀ x y, x ∈ l → f x = some y → ∃ ds, Q x ds ∧ bulkL ds ≤ B y) → ∃ dss : List (List D), dss.length = l.length ∧ (∀ (i : Nat) x, l[i]? = some x → ∃ ds, dss[i]? = some ds ∧ Q x ds) ∧ bulkLL dss ≤ (ys.map B).sum
  | [], ys, h, _ => by
    simp at h
    subst h
    exact ⟨[], rfl, fun i x hx => by simp at hx, by simp [bulkLL]⟩
  | x :: l, ys, h, hq => by
    simp only [List.mapM_cons, Option.bind_eq_bind, Option.bind_eq_some_iff, Option.pure_def, Option.some.injEq] at h
    obtain ⟨y, hy, ys', hys, rfl⟩ := h
    obtain ⟨ds, h1, h2⟩ := hq x y (by simp) hy
    obtain ⟨dss, k1, k2, k3⟩ := mapM_data hys (fun x' y' hx' => hq x' y' (by simp [hx']))
    refine ⟨ds :: dss, by simp [k1], fun i x' hx' => ?_, by simp only [bulkLL, List.map_cons, List.sum_cons]; omega⟩
    cases i with
    | zero => cases hx'; exact ⟨ds, rfl, h1⟩
    | succ i => exact k2 i x' (by simpa using hx')

theorem uptoAll_sum {H : Type} : ∀ (l : List (DataW H)), uptoBulkAll l = (l.map uptoBulk).sum
  | [] => by simp [uptoBulkAll]
  | x :: r => by simp [uptoBulkAll, uptoAll_sum r]

theorem uptoAll_append {H : Type} (a b : List (DataW H)) : uptoBulkAll (a ++ b) = uptoBulkAll a + uptoBulkAll b := by
  simp [uptoAll_sum]

theorem upto_pos {H : Type} (d : DataW H) : 1 ≤ uptoBulk d := by
  cases d with
  | lit l => cases l <;> simp [uptoBulk]
  | _ => simp [uptoBulk]

theorem uptoAll_len {H : Type} : ∀ (l : List (DataW H)), l.length ≤ uptoBulkAll l
  | [] => by simp
  | x :: r => by have := upto_pos x; have := uptoAll_len r; simp only [List.length_cons, uptoBulkAll]; omega

theorem uptoAll_mem {H : Type} {l : List (DataW H)} {x : DataW H} (h : x ∈ l) : uptoBulk x ≤ uptoBulkAll l := by
  induction l with
  | nil => cases h
  | cons y r ih =>
    simp only [uptoBulkAll]
    rcases List.mem_cons.1 h with rfl | h
    · omega
    · have := ih h; omega

theorem mapM_mem {α β : Type} {f : α → Option β} : ∀ {l : List α} {ys : List β}, l.mapM f = some ys → ∀ {x y}, x ∈ l → f x = some y → y ∈ ys
  | x :: l, ys, h, x', y', hx, hy => by
    simp only [List.mapM_cons, Option.bind_eq_bind, Option.bind_eq_some_iff, Option.pure_def, Option.some.injEq] at h
    obtain ⟨y, hy', ys', hys, rfl⟩ := h
    rcases List.mem_cons.1 hx with rfl | hx
    · rw [hy] at hy'; cases hy'; simp
    · exact List.mem_cons_of_mem _ (mapM_mem hys hx hy)

variable {H : Type} {enc : TypeId × Value → H} {P : Program} {w : World} {base : Nat} {spare : Nat → Bool} {held : Bool}

theorem cell_lt {w : World} {a : Addr} {v : Value} (h : w.cell? a = some v) : a.block < w.heap.size := by
  unfold World.cell? at h
  split at h
  · rename_i hb; exact (Array.getElem?_eq_some_iff.1 hb).1
  · cases h

/-- What a reading of plain data has met. -/
def Met (P : Program) (w : World) (k : Nat) (t : TypeId) (cs : List Value) (ds : List D) : Prop :=
  okD P k t ds ∧ ds.length = P.cellsOf t ∧ ds.length = cs.length ∧ ∀ (j : Nat) x, ds[j]? = some x → ∃ v, cs[j]? = some v ∧ RepD (inHeap w) w x v

theorem fields_data {k fuel : Nat} {cs : List Value} (ih : ∀ fuel t cs (x : DataW H × List MemPlace), plainTy P k t = true → (noSl P k t = true ∨ uptoBulk x.1 ≤ 281474976710656) → DataW.trod enc P w base spare held fuel t cs = some x → ∃ ds, Met P w k t cs ds ∧ bulkL ds ≤ uptoBulk x.1) :
    ∀ (l : List Field) (o : Nat) (xs : List (DataW H × List MemPlace)), tiles P o l cs.length = true → (l.all fun f => plainTy P k f.type) = true → ((l.all fun f => noSl P k f.type) = true ∨ uptoBulkAll (xs.map (·.1)) ≤ 281474976710656) →
      (l.mapM fun f => DataW.trod enc P w base spare held fuel f.type ((cs.drop f.offset).take (P.cellsOf f.type))) = some xs →
      ∃ ds, l.foldr (fun f (Q : List D → Prop) ds => ∃ a b, ds = a ++ b ∧ okD P k f.type a ∧ Q b) (fun ds => ds = []) ds ∧ o + ds.length = cs.length ∧ (∀ (j : Nat) x, ds[j]? = some x → ∃ v, cs[o + j]? = some v ∧ RepD (inHeap w) w x v) ∧ bulkL ds ≤ uptoBulkAll (xs.map (·.1))
  | [], o, xs, ht, _, _, h => by
    simp only [tiles, beq_iff_eq] at ht
    simp at h
    subst h
    exact ⟨[], rfl, by simpa using ht, fun j x hx => by simp at hx, by simp [bulkL]⟩
  | f :: l, o, xs, ht, hp, hb, h => by
    simp only [tiles, Bool.and_eq_true, beq_iff_eq] at ht
    simp only [List.all_cons, Bool.and_eq_true] at hp
    simp only [List.mapM_cons, Option.bind_eq_bind, Option.bind_eq_some_iff, Option.pure_def, Option.some.injEq] at h
    obtain ⟨y, hy, ys, hys, rfl⟩ := h
    simp only [List.all_cons, Bool.and_eq_true, List.map_cons, uptoBulkAll] at hb
    obtain ⟨a, ⟨a1, a2, a3, a4⟩, a5⟩ := ih fuel _ _ y hp.1 (hb.imp (·.1) (by omega)) hy
    obtain ⟨b, b1, b2, b3, b4⟩ := fields_data ih l _ ys ht.2 hp.2 (hb.imp (·.2) (by omega)) hys
    rw [ht.1] at a3 a4
    refine ⟨a ++ b, ⟨a, b, rfl, a1, b1⟩, by simp; omega, fun j x hx => ?_, by rw [bulkL_append]; simp only [List.map_cons, uptoBulkAll]; omega⟩
    by_cases hj : j < a.length
    · rw [List.getElem?_append_left hj] at hx
      obtain ⟨v, hv, hr⟩ := a4 j x hx
      rw [List.getElem?_take, List.getElem?_drop] at hv
      split at hv
      · exact ⟨v, hv, hr⟩
      · cases hv
    · rw [List.getElem?_append_right (by omega)] at hx
      obtain ⟨v, hv, hr⟩ := b3 _ x hx
      refine ⟨v, ?_, hr⟩
      rw [← hv]
      congr 1
      omega

theorem flatten_inv {α : Type} {sz : Nat} (hs : 0 < sz) {xs : List (List α)} (h : ∀ x ∈ xs, x.length = sz) {j : Nat} {y : α} (hj : xs.flatten[j]? = some y) : ∃ x, xs[j / sz]? = some x ∧ x[j % sz]? = some y := by
  have hl := length_flatten_const sz xs h
  have hlt := (List.getElem?_eq_some_iff.1 hj).1
  rw [hl] at hlt
  have hi : j / sz < xs.length := Nat.div_lt_of_lt_mul (by rw [Nat.mul_comm]; exact hlt)
  have := flatten_get sz xs h (j / sz) (j % sz) hi (Nat.mod_lt _ hs)
  rw [Nat.div_add_mod' j sz, hj] at this
  exact ⟨_, List.getElem?_eq_getElem hi, this.symm⟩

theorem trod_data : ∀ (k fuel : Nat) (t : TypeId) (cs : List Value) (x : DataW H × List MemPlace), plainTy P k t = true → (noSl P k t = true ∨ uptoBulk x.1 ≤ 281474976710656) → DataW.trod enc P w base spare held fuel t cs = some x → ∃ ds, Met P w k t cs ds ∧ bulkL ds ≤ uptoBulk x.1
  | 0, _, _, _, _, hp, _, _ => by simp [plainTy] at hp
  | _, 0, _, _, _, _, _, h => by simp [DataW.trod] at h
  | k + 1, fuel + 1, t, cs, x, hp, hbb, h => by
    unfold plainTy at hp
    split at hp
    · rename_i ht
      obtain ⟨b, rfl, rfl⟩ := DataW.trod_bool ht h
      refine ⟨[.v (.bool b)], ⟨by unfold okD; rw [ht]; exact ⟨b, rfl⟩, by simpa using (beq_iff_eq.1 hp).symm, rfl, fun j y hy => ?_⟩, by simp [bulkL, D.bulk, uptoBulk]⟩
      cases j with
      | zero => cases hy; exact ⟨_, rfl, .v _ rfl⟩
      | succ j => simp at hy
    · rename_i kd ht
      obtain ⟨n, rfl, rfl, hw⟩ := DataW.trod_int ht h
      refine ⟨[.v (.int kd n)], ⟨by unfold okD; rw [ht]; exact ⟨n, hw, rfl⟩, by simpa using (beq_iff_eq.1 hp).symm, rfl, fun j y hy => ?_⟩, by simp [bulkL, D.bulk, uptoBulk]⟩
      cases j with
      | zero => cases hy; exact ⟨_, rfl, .v _ rfl⟩
      | succ j => simp at hy
    · rename_i ht
      obtain ⟨s, rfl, rfl, hw⟩ := DataW.trod_string ht h
      refine ⟨[.v (.string s)], ⟨by unfold okD; rw [ht]; exact ⟨s, hw, rfl⟩, by simpa using (beq_iff_eq.1 hp).symm, rfl, fun j y hy => ?_⟩, ?_⟩
      · cases j with
        | zero => cases hy; exact ⟨_, rfl, .v _ rfl⟩
        | succ j => simp at hy
      · simp only [bulkL, D.bulk, uptoBulk]
        have : s.data.toList.length = s.size := Array.length_toList
        omega
    · rename_i e ht
      simp only [Bool.and_eq_true, beq_iff_eq, decide_eq_true_eq] at hp
      obtain ⟨⟨hp1, hp2⟩, hp3⟩ := hp
      replace hbb : uptoBulk x.1 ≤ 281474976710656 := hbb.resolve_left (by unfold noSl; rw [ht]; simp)
      unfold DataW.trod at h
      rw [ht] at h
      simp only at h
      split at h
      all_goals first | (exfalso; simp_all; done) | skip
      · simp only [Option.some.injEq] at h
        subst h
        refine ⟨[.sl []], ⟨by unfold okD; rw [ht]; exact ⟨[], rfl, by simp⟩, by simp [hp1], rfl, fun j y hy => ?_⟩, by simp [bulkL, D.bulk, bulkLL, uptoBulk]⟩
        cases j with
        | zero => cases hy; exact ⟨_, rfl, RepD.nil _ _⟩
        | succ j => simp at hy
      · rename_i e' a len cap he
        simp only [Option.some.injEq, TypeDesc.slice.injEq] at he
        subst he
        split at h
        · rename_i hb
          obtain ⟨elems, h1, h2⟩ := Option.bind_eq_some_iff.1 h
          obtain ⟨rest, h3, rfl⟩ := Option.map_eq_some_iff.1 h2
          simp only [uptoBulk] at hbb
          have hsum : ∀ y ∈ elems, uptoBulk y.1 ≤ uptoBulkAll (elems.map (·.1)) := fun y hy => uptoAll_mem (List.mem_map.2 ⟨y, hy, rfl⟩)
          have hmem : ∀ i y, i ∈ List.range len → _ = some y → y ∈ elems := fun i y hi hy => mapM_mem h1 hi hy
          obtain ⟨dss, d1, d2, d3⟩ := mapM_data (Q := fun (i : Nat) ds => okD P k e ds ∧ ds.length = P.cellsOf e ∧ ∀ (j : Nat) x, ds[j]? = some x → ∃ v, w.cell? (a.add (i * P.cellsOf e + j)) = some v ∧ RepD (inHeap w) w x v) (B := fun y : DataW H × List MemPlace => uptoBulk y.1) h1 (fun i y hi hy => by
            have hym := hsum y (hmem i y hi hy)
            obtain ⟨ci, c1, c2⟩ := Option.bind_eq_some_iff.1 hy
            obtain ⟨ds, ⟨e1, e2, e3, e4⟩, e5⟩ := trod_data k fuel e ci y hp3 (.inr (by omega)) c2
            refine ⟨ds, ⟨e1, e2, fun j x hx => ?_⟩, e5⟩
            obtain ⟨v, hv, hr⟩ := e4 j x hx
            obtain ⟨_, f2, f3⟩ := World.cells?_some c1
            have hlt := (List.getElem?_eq_some_iff.1 hv).1
            refine ⟨v, ?_, hr⟩
            rw [← hv, ← f3 j (by omega), Addr.add_add])
          simp only [List.length_range] at d1
          have h1' := h1
          have hall : ∀ x ∈ dss, okD P k e x ∧ x.length = P.cellsOf e := by
            intro x hx
            obtain ⟨i, hi, rfl⟩ := List.getElem_of_mem hx
            obtain ⟨ds, g1, g2, g3, _⟩ := d2 i i (by rw [List.getElem?_range (by omega)])
            rw [List.getElem?_eq_getElem hi] at g1
            cases g1
            exact ⟨g2, g3⟩
          have hcell : ∀ (j : Nat) y, dss.flatten[j]? = some y → ∃ v, w.cell? (a.add j) = some v ∧ RepD (inHeap w) w y v := by
            intro j y hy
            obtain ⟨x, hx, hxy⟩ := flatten_inv hp2 (fun x hx => (hall x hx).2) hy
            have hi := (List.getElem?_eq_some_iff.1 hx).1
            obtain ⟨ds, g1, _, _, g4⟩ := d2 (j / P.cellsOf e) (j / P.cellsOf e) (by rw [List.getElem?_range (by omega)])
            rw [hx] at g1
            cases g1
            have := g4 _ y hxy
            rwa [Nat.div_add_mod' j (P.cellsOf e)] at this
          have hrep : RepD (inHeap w) w (.sl dss) (.slice (some a) len cap) := by
            by_cases hnil : dss = []
            · subst hnil
              simp at d1
              subst d1
              exact RepD.nil _ _
            · obtain ⟨g, o, spot⟩ := a
              have hpos : 0 < dss.flatten.length := by
                rw [length_flatten_const _ _ (fun x hx => (hall x hx).2)]
                exact Nat.mul_pos (List.length_pos_iff.2 hnil) hp2
              obtain ⟨v, hv, _⟩ := hcell 0 _ (List.getElem?_eq_getElem hpos)
              have hsp : spot = none := by simpa [Addr.add] using World.cell?_spot hv
              subst hsp
              have := RepD.mk (S := inHeap w) (w := w) (xs := dss) (g := g) (o := o) (c := cap) (by omega) (by have h1 := uptoAll_len (elems.map (·.1)); have h2 := mapM_some_length h1'; simp at h1 h2; omega) (fun x hx => (hall x hx).2) (fun j y hy => by
                obtain ⟨v, hv, hr⟩ := hcell j y hy
                have hv' : w.cell? ⟨g, o + j, none⟩ = some v := by rw [Addr.add_lit] at hv; exact hv
                exact ⟨cell_lt hv', v, hv', hr⟩)
              rwa [d1] at this
          refine ⟨[.sl dss], ⟨by unfold okD; rw [ht]; exact ⟨dss, rfl, fun x hx => (hall x hx).1⟩, by simp [hp1], rfl, fun j y hy => ?_⟩, ?_⟩
          · cases j with
            | zero => cases hy; exact ⟨_, rfl, hrep⟩
            | succ j => simp at hy
          · have : uptoBulkAll (elems.map (·.1)) = (elems.map fun y => uptoBulk y.1).sum := by
              rw [uptoAll_sum, List.map_map]; rfl
            simp only [bulkL, D.bulk, uptoBulk, this]
            omega
        · cases h
    · rename_i fs ht
      simp only [Bool.and_eq_true] at hp
      unfold DataW.trod at h
      rw [ht] at h
      simp only at h
      split at h
      all_goals first | (exfalso; simp_all; done) | skip
      rename_i hl
      obtain ⟨xs, hxs, rfl⟩ := Option.map_eq_some_iff.1 h
      obtain ⟨ds, d1, d2, d3, d4⟩ := fields_data (k := k) (fuel := fuel) (cs := cs) (fun fuel t cs x => trod_data k fuel t cs x) fs.toList 0 xs (by rw [hl]; exact hp.1) hp.2 (hbb.imp (fun h => by unfold noSl at h; rw [ht] at h; exact h) (fun h => by simp only [uptoBulk] at h; omega)) hxs
      refine ⟨ds, ⟨by unfold okD; rw [ht]; exact d1, by omega, by omega, fun j x hx => by simpa using d3 j x hx⟩, ?_⟩
      exact Nat.le_trans d4 (Nat.le_add_right _ _)
    · cases hp


def svsOf (P : Program) : List TypeId → List (List D) → List SV
  | t :: ts, ds :: dss => svOf P t ds :: svsOf P ts dss
  | _, _ => []

theorem arg_data {b0 k : Nat} {t : TypeId} {v : Value} {d : DataW H} {ps : List MemPlace} (hp : plainTy P k t = true) (hb : noSl P k t = true ∨ uptoBulk d ≤ 281474976710656) (hv : Value.okWide P w .any b0 t v) (h : DataW.Trod enc P w base spare held t v d ps) :
    ∃ ds, okD P k t ds ∧ bulkL ds ≤ uptoBulk d ∧ ∀ (i : Nat) loc ow box, RepV (inHeap w) loc box ow w i (svOf P t ds) v := by
  obtain ⟨fuel, hf⟩ := h
  obtain ⟨ds, ⟨h1, h2, h3, h4⟩, h5⟩ := trod_data k fuel t _ (d, ps) hp hb hf
  refine ⟨ds, h1, h5, fun i loc ow box => ?_⟩
  cases k with
  | zero => simp [plainTy] at hp
  | succ k =>
    have hone : ∀ cs : List Value, v.cells.toList = cs → cs = [v] → ds.length = 1 → (∀ fs, P.underlying t ≠ some (.struct fs)) → RepV (inHeap w) loc box ow w i (svOf P t ds) v := by
      intro cs he hc hl hs
      obtain ⟨x, rfl⟩ := List.length_eq_one_iff.1 hl
      obtain ⟨u, hu, hr⟩ := h4 0 x rfl
      rw [he, hc] at hu
      cases hu
      have e : svOf P t [x] = .c (.d x) := by
        unfold svOf
        split
        · rename_i fs _ ht; exact absurd ht (hs _)
        · rename_i h _; cases h; rfl
        · rename_i h; exact absurd rfl (h x)
      rw [e]
      exact hr
    unfold plainTy at hp
    split at hp
    · rename_i ht
      obtain ⟨b, rfl⟩ := okWide_bool ht hv
      exact hone _ rfl rfl (by simpa [Value.cells] using h3) (by rw [ht]; simp)
    · rename_i kd ht
      obtain ⟨b, rfl⟩ := okWide_int ht hv
      exact hone _ rfl rfl (by simpa [Value.cells] using h3) (by rw [ht]; simp)
    · rename_i ht
      obtain ⟨b, rfl⟩ := okWide_string ht hv
      exact hone _ rfl rfl (by simpa [Value.cells] using h3) (by rw [ht]; simp)
    · rename_i e ht
      obtain ⟨a, l, c, rfl⟩ := okWide_slice ht hv
      exact hone _ rfl rfl (by simpa [Value.cells] using h3) (by rw [ht]; simp)
    · rename_i fs ht
      unfold Value.okWide at hv
      rw [ht] at hv
      obtain ⟨cs, rfl, hsz, _⟩ := hv
      have e : svOf P t ds = .agg (ds.map .d) := by
        unfold svOf
        rw [ht]
      rw [e]
      refine ⟨cs, rfl, by simpa [Value.cells] using h3.symm, fun m c hc => ?_⟩
      rw [List.getElem?_map] at hc
      obtain ⟨x, hx, rfl⟩ := Option.map_eq_some_iff.1 hc
      obtain ⟨u, hu, hr⟩ := h4 m x hx
      exact ⟨rfl, u, by simpa [Value.cells] using hu, hr⟩
    · cases hp

theorem args_data {b0 k : Nat} : ∀ (ts : List TypeId) (vs : List Value) (ds : List (DataW H)) (ps : List MemPlace), (ts.all fun t => plainTy P k t) = true → ((ts.all fun t => noSl P k t) = true ∨ uptoBulkAll ds ≤ 281474976710656) →
    (∀ (j : Nat) t v, ts[j]? = some t → vs[j]? = some v → Value.okWide P w .any b0 t v) → DataW.TrodAll enc P w base spare held ts vs ds ps →
    ∃ dss, okAll P k ts dss ∧ bulkLL dss ≤ uptoBulkAll ds ∧ (svsOf P ts dss).length = ts.length ∧ vs.length = ts.length ∧ ∀ (i j : Nat) loc ow box, i < ts.length → RepV (inHeap w) loc box ow w j ((svsOf P ts dss).getD i .undef) (vs.getD i undef)
  | [], vs, ds, ps, _, _, _, h => by
    cases vs with
    | nil => exact ⟨[], trivial, by simp [bulkLL], rfl, rfl, fun i j _ _ _ hi => by simp at hi⟩
    | cons v vs => cases ds <;> cases h
  | t :: ts, vs, ds, ps, hp, hb, hv, h => by
    obtain ⟨v, vs', d, ds', p, q, rfl, rfl, rfl, h1, h2⟩ := trodAll_cons h
    simp only [List.all_cons, Bool.and_eq_true] at hp hb
    simp only [uptoBulkAll] at hb
    obtain ⟨x, x1, x2, x3⟩ := arg_data hp.1 (hb.imp (·.1) (by omega)) (hv 0 t v rfl rfl) h1
    obtain ⟨dss, y1, y2, y3, y4, y5⟩ := args_data ts vs' ds' q hp.2 (hb.imp (·.2) (by omega)) (fun j t v ht hv' => hv (j + 1) t v (by simpa using ht) (by simpa using hv')) h2
    refine ⟨x :: dss, ⟨x1, y1⟩, by simp only [bulkLL, uptoBulkAll]; omega, by simp [svsOf, y3], by simp [y4], fun i j loc ow box hi => ?_⟩
    cases i with
    | zero => exact x3 j loc ow box
    | succ i => exact y5 i j loc ow box (by simpa using hi)

/-- From a law's contract to its call. -/
theorem law_calls {f : FuncId} {ts : List TypeId} {args : Array Value} {dss : List (List D)} (hl : (svsOf P ts dss).length = ts.length) (hl2 : args.toList.length = ts.length)
    (hr : ∀ (i j : Nat) loc ow box, i < ts.length → RepV (inHeap w) loc box ow w j ((svsOf P ts dss).getD i .undef) (args.toList.getD i undef))
    (pc : PC P f (svsOf P ts dss) (tab []) (vb true) (tab [])) : Calls P f args w fun e w' => e = .returned (.bool true) ∧ Below w.heap.size w w' := by
  have hsz : args.size = (svsOf P ts dss).length := by rw [hl, ← hl2, Array.length_toList]
  refine (pc w (inHeap w) (fun _ => 0) (fun _ => none) args hsz ⟨(fun b o h => h), (fun b p h => nomatch h), (fun i hi => ?_), (fun k cs hk => by simp [tab] at hk)⟩).mono ?_
  · have := hr i i (fun _ => 0) (fun _ => none) (tab []) (by omega)
    have e : args.toList.getD i undef = args.getD i undef := by
      simp [List.getD, Array.getD_eq_getD_getElem?]
    rw [e] at this
    exact this
  · rintro e w' ⟨S', loc', ow', v, rfl, hK, hH, _⟩
    have hv : v = .bool true := RepD.v_inv (hH.env 0 (by decide))
    exact ⟨by rw [hv], hK.os, hK.tape, hK.output, hK.size, fun b hb => (hK.keep b hb rfl).1⟩

end

/-- Shapes of types. -/
inductive TS where
  | b
  | i (k : IntKind)
  | s
  | sl (e : TS)
  | st (fs : List TS)
  | bad

mutual
def okS : TS → List D → Prop
  | .b, ds => ∃ b, ds = [.v (.bool b)]
  | .i k, ds => ∃ n, (Lit.int k n).wf = true ∧ ds = [.v (.int k n)]
  | .s, ds => ∃ s : ByteArray, s.size ≤ maxLen ∧ ds = [.v (.string s)]
  | .sl e, ds => ∃ xs, ds = [.sl xs] ∧ ∀ x ∈ xs, okS e x
  | .st fs, ds => okSs fs ds
  | .bad, _ => False
def okSs : List TS → List D → Prop
  | [], ds => ds = []
  | t :: ts, ds => ∃ a b, ds = a ++ b ∧ okS t a ∧ okSs ts b
end

def okAllS : List TS → List (List D) → Prop
  | [], [] => True
  | t :: ts, ds :: dss => okS t ds ∧ okAllS ts dss
  | _, _ => False

theorem okAllS_cons {t : TS} {ts : List TS} {dss : List (List D)} (h : okAllS (t :: ts) dss) : ∃ d r, dss = d :: r ∧ okS t d ∧ okAllS ts r := by
  cases dss with
  | nil => cases h
  | cons d r => exact ⟨d, r, rfl, h.1, h.2⟩

theorem okAllS_nil {dss : List (List D)} (h : okAllS [] dss) : dss = [] := by
  cases dss with
  | nil => rfl
  | cons d r => cases h

def tySpec (P : Program) : Nat → TypeId → TS
  | 0, _ => .bad
  | k + 1, t =>
    match P.underlying t with
    | some .bool => .b
    | some (.int kd) => .i kd
    | some .string => .s
    | some (.slice e) => .sl (tySpec P k e)
    | some (.struct fs) => .st (fs.toList.map fun f => tySpec P k f.type)
    | _ => .bad

theorem okD_S {P : Program} : ∀ (k : Nat) (t : TypeId) (ds : List D), okD P k t ds → okS (tySpec P k t) ds
  | 0, _, _, h => by cases h
  | k + 1, t, ds, h => by
    unfold okD at h
    unfold tySpec
    split at h
    · simpa [okS] using h
    · simpa [okS] using h
    · simpa [okS] using h
    · obtain ⟨xs, rfl, h1⟩ := h
      simp only [okS]
      exact ⟨xs, rfl, fun x hx => okD_S k _ _ (h1 x hx)⟩
    · rename_i fs _
      simp only [okS]
      have key : ∀ (l : List Field) ds, l.foldr (fun f (Q : List D → Prop) ds => ∃ a b, ds = a ++ b ∧ okD P k f.type a ∧ Q b) (fun ds => ds = []) ds → okSs (l.map fun f => tySpec P k f.type) ds := by
        intro l
        induction l with
        | nil => intro ds h; exact h
        | cons f l ih =>
          intro ds h
          obtain ⟨a, b, rfl, h1, h2⟩ := h
          simp only [List.map_cons, okSs]
          exact ⟨a, b, rfl, okD_S k _ _ h1, ih b h2⟩
      exact key _ _ h
    · cases h

theorem okAll_S {P : Program} {k : Nat} : ∀ {ts : List TypeId} {dss : List (List D)}, okAll P k ts dss → okAllS (ts.map (tySpec P k)) dss
  | [], [], _ => trivial
  | t :: ts, ds :: dss, h => ⟨okD_S k t ds h.1, okAll_S h.2⟩
  | [], _ :: _, h => by cases h
  | _ :: _, [], h => by cases h

def svT : TS → List D → SV
  | .st _, ds => .agg (ds.map .d)
  | _, [x] => .c (.d x)
  | _, _ => .undef

def svTs : List TS → List (List D) → List SV
  | t :: ts, ds :: dss => svT t ds :: svTs ts dss
  | _, _ => []

theorem svOf_T {P : Program} {k : Nat} {t : TypeId} {ds : List D} (h : okD P k t ds) : svOf P t ds = svT (tySpec P k t) ds := by
  cases k with
  | zero => cases h
  | succ k =>
    unfold okD at h
    unfold tySpec svOf
    split at h
    · rename_i ht; rw [ht]; obtain ⟨_, rfl⟩ := h; rfl
    · rename_i ht; rw [ht]; obtain ⟨_, _, rfl⟩ := h; rfl
    · rename_i ht; rw [ht]; obtain ⟨_, _, rfl⟩ := h; rfl
    · rename_i ht; rw [ht]; obtain ⟨_, rfl, _⟩ := h; rfl
    · rename_i ht; rw [ht]; rfl
    · cases h

theorem svsOf_T {P : Program} {k : Nat} : ∀ {ts : List TypeId} {dss : List (List D)}, okAll P k ts dss → svsOf P ts dss = svTs (ts.map (tySpec P k)) dss
  | [], [], _ => rfl
  | t :: ts, ds :: dss, h => by simp only [svsOf, List.map_cons, svTs, svOf_T h.1, svsOf_T h.2]
  | [], _ :: _, h => by cases h
  | _ :: _, [], h => by cases h

/-- A law's walk, for its row. -/
theorem law_row {H : Type} {enc : TypeId × Value → H} {P : Program} {w : World} {b0 base : Nat} {spare : Nat → Bool} {held : Bool} {f : FuncId} {k : Nat} {ts : List TypeId} {sp : List TS} {args : Array Value} {ds : List (DataW H)} {ps : List MemPlace}
    (hsp : ts.map (tySpec P k) = sp) (hp : (ts.all fun t => plainTy P k t) = true) (hb : (ts.all fun t => noSl P k t) = true ∨ Go.Proofs.Ytglmbheeplndpaa.Rows.uptoBulkAll ds ≤ 281474976710656)
    (hv : ∀ (j : Nat) t v, ts[j]? = some t → args.toList[j]? = some v → Value.okWide P w .any b0 t v) (h : DataW.TrodAll enc P w base spare held ts args.toList ds ps)
    (pc : ∀ dss, okAllS sp dss → bulkLL dss ≤ Go.Proofs.Ytglmbheeplndpaa.Rows.uptoBulkAll ds → PC P f (svTs sp dss) (tab []) (vb true) (tab [])) :
    Calls P f args w fun e w' => e = .returned (.bool true) ∧ Below w.heap.size w w' := by
  obtain ⟨dss, h1, h2, h3, h4, h5⟩ := args_data (k := k) ts args.toList ds ps hp hb hv h
  have h6 := okAll_S h1
  rw [hsp] at h6
  have := pc dss h6 h2
  rw [← hsp, ← svsOf_T h1] at this
  exact law_calls h3 h4 h5 this

end Go.V

