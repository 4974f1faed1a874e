/- The value machine, part 10: stores, appends, slices that are written out. -/
import Derived.Test.YtglmbheeplndpaaV9
set_option linter.all false
set_option linter.unusedSimpArgs false
set_option linter.unusedVariables false
namespace Go.V
open Go

section
variable {P : Program} {S : Stab} {loc : Nat → Nat} {ow : Nat → Option Pl} {w : World} {N : Nat} {st : VSt} {vals : Nat → Value}

/-! ### append, whatever stands behind -/
section
variable (t t2 ty e : TypeId) (i : TypeInfo) (x : Value) (m : Nat) (news : List Value)

theorem run_app_zero (ht : P.underlying t = some (.slice e)) (hi : P.info? e = some i) {d2 : TypeDesc} (ht2 : P.underlying t2 = some d2) (hd2 : d2 = .slice e ∨ d2 = .string) (hlen : Builtin.lenOf x = pure 0) (hf : (Builtin.firstCells i.size 0 x).run P w = .ok #[] w) (b : Option Addr) (n c : Nat) (hn : n ≤ c) :
    (Builtin.append_ #[t, t2] ty #[.slice b n c, x]).run P w = .ok (.slice b n c) w := by
  rcases hd2 with rfl | rfl <;> cases b <;>
    simp [Builtin.append_, run_underlying ht, run_underlying ht2, sizeOf, typeInfo, hi, hlen, hf, hn, storeCells]

theorem run_app_room (ht : P.underlying t = some (.slice e)) (hi : P.info? e = some i) {d2 : TypeDesc} (ht2 : P.underlying t2 = some d2) (hd2 : d2 = .slice e ∨ d2 = .string) (hlen : Builtin.lenOf x = pure m) (hf : (Builtin.firstCells i.size m x).run P w = .ok news.toArray w)
    (g n c : Nat) (cur : Array Value) (hg : w.heap[g]? = some (.cells cur e (0, 0))) (h1 : ∀ u ∈ news, u.oneCell' = true) (hroom : n + m ≤ c) (hfit : n * i.size + news.length ≤ cur.size) :
    (Builtin.append_ #[t, t2] ty #[.slice (some ⟨g, 0, none⟩) n c, x]).run P w =
      .ok (.slice (some ⟨g, 0, none⟩) (n + m) c) (w.setRow g (cur.toList.take (n * i.size) ++ news ++ cur.toList.drop (n * i.size + news.length)).toArray) := by
  have hst := run_storeCells_at P g (n * i.size) e news 0 cur w hg (by simpa using hfit) h1
  simp only [Nat.add_zero] at hst
  rcases hd2 with rfl | rfl <;>
    simp [Builtin.append_, run_underlying ht, run_underlying ht2, sizeOf, typeInfo, hi, hlen, hf, hroom, add_none, hst]

theorem run_app_grow (z : Value) (ht : P.underlying t = some (.slice e)) (hi : P.info? e = some i) (hz : i.zero = some z) {d2 : TypeDesc} (ht2 : P.underlying t2 = some d2) (hd2 : d2 = .slice e ∨ d2 = .string) (hlen : Builtin.lenOf x = pure m) (hf : (Builtin.firstCells i.size m x).run P w.drew = .ok news.toArray w.drew)
    (b : Option Addr) (n c : Nat) (olds : List Value) (hfo : (Builtin.firstCells i.size n (.slice b n c)).run P w.drew = .ok olds.toArray w.drew)
    (hg : c < n + m) (h63 : ((n + m : Nat) : Int) ≤ 9223372036854775807) (hfit : Builtin.nextslicecap (n + m) c * i.bytes ≤ 281474976710656) :
    (Builtin.append_ #[t, t2] ty #[.slice b n c, x]).run P w =
      .ok (.slice (some ⟨w.heap.size, 0, none⟩) (n + m) (grownCap w (n + m) c e))
        (w.drew.alloc (.cells (olds.toArray ++ news.toArray ++ Builtin.zeroCells z.cells (grownCap w (n + m) c e - (n + m))) e)) := by
  have hn : ¬ (n + m ≤ c) := by omega
  have h63' : ¬ (9223372036854775807 < ((n : Int) + (m : Int))) := by omega
  have h48' : ¬ (281474976710656 < Builtin.nextslicecap (n + m) c * i.bytes) := by omega
  rcases hd2 with rfl | rfl <;>
    (simp [Builtin.append_, run_underlying ht, run_underlying ht2, sizeOf, typeInfo, zeroValue, hi, hz, hlen, hn, h63', h48', Question.forced, hf, hfo, newRow, grownCap] <;>
      (congr 2; apply Array.ext'; simp [List.append_assoc]))
end

/-- What is appended, as it lies in memory. -/
def SrcRep (P : Program) (S : Stab) (w : World) (e sz : Nat) (t2 : TypeId) (u : Value) (ys : List (List D)) (nv : List Value) : Prop :=
  Builtin.lenOf u = pure ys.length ∧ nv.length = ys.length * sz ∧ (∀ w' : World, (∀ b o, S b o → w'.cell? ⟨b, o, none⟩ = w.cell? ⟨b, o, none⟩) → (Builtin.firstCells sz ys.length u).run P w' = .ok nv.toArray w') ∧
    (∀ (j : Nat) x, ys.flatten[j]? = some x → ∃ v, nv[j]? = some v ∧ RepD S w x v) ∧ (∀ v ∈ nv, v.oneCell' = true) ∧ ∃ d2, P.underlying t2 = some d2 ∧ (d2 = .slice e ∨ d2 = .string)

theorem src_slice {d : Nat} {y : SV} {u : Value} (hv : RepV S loc st.box ow w d y u) {ys : List (List D)} (hy : y.elems = some ys) {sz : Nat} (hsz : ∀ x ∈ ys, x.length = sz) {t2 e : TypeId} (ht : P.underlying t2 = some (.slice e)) :
    ∃ nv, SrcRep P S w e sz t2 u ys nv := by
  have hrep := hv.elems hy
  have hfl := length_flatten_const sz ys hsz
  obtain ⟨a, c, rfl, hc, hm⟩ := hrep.sl_inv
  by_cases hnil : ys = []
  · subst hnil
    refine ⟨[], rfl, by simp, fun w' _ => ?_, fun j x hx => by simp at hx, by simp, _, ht, .inl rfl⟩
    cases a <;> simp [Builtin.firstCells, loadCells, loadCellsFrom]
  · cases hrep with
    | sl _ _ _ sz' val hc' hm' hz ha hr =>
      obtain ⟨g, o, rfl, hcells⟩ := ha hnil
      have hss : sz' = sz := by
        cases ys with
        | nil => exact absurd rfl hnil
        | cons x xs => rw [← hsz x (by simp), hz x (by simp)]
      subst hss
      have hone : ∀ v ∈ (List.range (ys.length * sz')).map val, v.oneCell' = true := by
        intro v hv
        obtain ⟨j, hj, rfl⟩ := List.mem_map.1 hv
        have hj' : j < ys.flatten.length := by rw [hfl]; exact List.mem_range.1 hj
        exact RepD.oneCell (hr j _ (List.getElem?_eq_getElem hj'))
      refine ⟨(List.range (ys.length * sz')).map val, rfl, by simp, fun w' hw' => ?_, fun j x hx => ?_, hone, _, ht, .inl rfl⟩
      · refine run_firstCells_some (P := P) w' sz' ys.length ⟨g, o, none⟩ ys.length c _ (by simp) (fun j v hj => ?_)
        have hlt := (List.getElem?_eq_some_iff.1 hj).1
        simp only [List.length_map, List.length_range] at hlt
        rw [List.getElem?_map, List.getElem?_range hlt] at hj
        simp only [Option.map_some, Option.some.injEq] at hj
        subst hj
        rw [add_none, hw' _ _ (hcells j hlt).1]
        exact (hcells j hlt).2
      · have hlt := (List.getElem?_eq_some_iff.1 hx).1
        rw [hfl] at hlt
        exact ⟨val j, by rw [List.getElem?_map, List.getElem?_range hlt]; rfl, hr j x hx⟩

theorem src_string {d : Nat} {s : ByteArray} {u : Value} (hv : RepV S loc st.box ow w d (.c (.d (.v (.string s)))) u) {sz : Nat} (hsz : ∀ x ∈ s.data.toList.map byteCell, x.length = sz) {t2 e : TypeId} (ht : P.underlying t2 = some .string) :
    ∃ nv, SrcRep P S w e sz t2 u (s.data.toList.map byteCell) nv := by
  rw [hv.atom]
  have hl : (s.data.toList.map byteCell).length = s.size := by rw [List.length_map, Array.length_toList]; rfl
  have hall : s.data.toList.length * 1 = (s.data.toList.map byteCell).length * sz := by
    have hfl := length_flatten_const sz _ hsz
    rw [← hfl, length_flatten_const 1 _ (fun x hx => by obtain ⟨b, _, rfl⟩ := List.mem_map.1 hx; rfl)]
    simp
  refine ⟨s.data.toList.map fun b => .int .u8 b.toNat, ?_, by simpa using hall, fun w' _ => ?_, fun j x hx => ?_, ?_, _, ht, .inr rfl⟩
  · rw [hl]; rfl
  · rw [hl]
    simp [Builtin.firstCells]
    apply Array.ext'
    simp
  · have hfl : (s.data.toList.map byteCell).flatten = s.data.toList.map fun b => D.v (.int .u8 b.toNat) := by
      induction s.data.toList with
      | nil => rfl
      | cons b l ih => simp only [List.map_cons, List.flatten_cons, ih]; rfl
    rw [hfl, List.getElem?_map] at hx
    obtain ⟨b, hb, rfl⟩ := Option.map_eq_some_iff.1 hx
    exact ⟨.int .u8 b.toNat, by rw [List.getElem?_map, hb]; rfl, .v _ rfl⟩
  · intro v hv
    obtain ⟨b, _, rfl⟩ := List.mem_map.1 hv
    rfl

theorem Own.mv {p q : Pl} {e sz n : Nat} {v : Value} (h : Own S ow w p e sz n v) : Own S (mvOw ow p q) w q e sz n v := by
  rcases h with ho | ⟨g, c, cur, rfl, hg, hh, h1, h2, h3, h4⟩
  · exact .inl ho
  · exact .inr ⟨g, c, cur, rfl, by simp [mvOw, hg], hh, h1, h2, h3, h4⟩

/-- The element type's row. -/
def elemInfo (P : Program) (e : TypeId) : Option (Nat × Nat × Value) :=
  match P.info? e with
  | some i => match i.zero with | some z => some (i.size, i.bytes, z) | none => none
  | none => none

theorem elemInfo_spec {e : TypeId} {sz bytes : Nat} {z : Value} (h : elemInfo P e = some (sz, bytes, z)) : ∃ i, P.info? e = some i ∧ i.zero = some z ∧ i.size = sz ∧ i.bytes = bytes := by
  unfold elemInfo at h
  split at h
  · rename_i i hi
    split at h
    · rename_i z' hz
      simp only [Option.some.injEq, Prod.mk.injEq] at h
      obtain ⟨h1, h2, h3⟩ := h
      subst h3
      exact ⟨i, hi, hz, h1, h2⟩
    · cases h
  · cases h

/-- A fresh row: nobody's yet. -/
theorem fresh_core (hS : ∀ b o, S b o → b < w.heap.size) (hso : ∀ b p, ow b = some p → b < w.heap.size) {xs : List (List D)} {sz cap e : Nat} {cells : Array Value} {W : World} (hW : W = w ∨ W = w.drew) (hsz : ∀ x ∈ xs, x.length = sz) (hcap : xs.length ≤ cap) (hcm : cap ≤ maxLen)
    (hlen : cells.size = cap * sz) (hm : xs.length ≤ 281474976710656) (hc : ∀ (j : Nat) x, xs.flatten[j]? = some x → ∃ v, cells[j]? = some v ∧ RepD S w x v) (p q : Pl) (box : Tab) :
    ∃ S' ow', Own S' ow' (W.alloc (.cells cells e)) q e sz xs.length (.slice (some ⟨w.heap.size, 0, none⟩) xs.length cap) ∧ RepD S' (W.alloc (.cells cells e)) (.sl xs) (.slice (some ⟨w.heap.size, 0, none⟩) xs.length cap) ∧
      Kept w S ow (W.alloc (.cells cells e)) S' ow' ∧ Ext (fun r => r = p ∨ r = q) S loc box ow w S' loc box ow' (W.alloc (.cells cells e)) ∧
      (∀ b o, S' b o → b < (W.alloc (.cells cells e)).heap.size) ∧ (∀ b r, ow' b = some r → b < (W.alloc (.cells cells e)).heap.size) := by
  have hWs : W.heap = w.heap := by rcases hW with rfl | rfl <;> rfl
  have hWt : W.os = w.os ∧ W.tape = w.tape ∧ W.output = w.output := by rcases hW with rfl | rfl <;> exact ⟨rfl, rfl, rfl⟩
  have hnew : (W.alloc (.cells cells e)).heap[w.heap.size]? = some (.cells cells e (0, 0)) := by
    have := Go.heap_alloc_new W (.cells cells e)
    rwa [hWs] at this
  have hold : ∀ b, b < w.heap.size → (W.alloc (.cells cells e)).heap[b]? = w.heap[b]? := by
    intro b hb
    have := Go.heap_alloc_old W (.cells cells e) (r := b) (by rw [hWs]; exact hb)
    rwa [hWs] at this
  have hcell : ∀ b o, S b o → (W.alloc (.cells cells e)).cell? ⟨b, o, none⟩ = w.cell? ⟨b, o, none⟩ := fun b o hs => World.cell?_of_block (hold b (hS b o hs))
  have hsize : (W.alloc (.cells cells e)).heap.size = w.heap.size + 1 := by rw [World.size_alloc, hWs]
  have hst : ∀ b o, S b o → (S b o ∨ (b = w.heap.size ∧ o < xs.length * sz)) ∧ (W.alloc (.cells cells e)).cell? ⟨b, o, none⟩ = w.cell? ⟨b, o, none⟩ := fun b o hs => ⟨.inl hs, hcell b o hs⟩
  refine ⟨fun b o => S b o ∨ (b = w.heap.size ∧ o < xs.length * sz), fun b => if b = w.heap.size then some q else ow b, ?_, ?_, ?_, ?_, ?_, ?_⟩
  · refine .inr ⟨w.heap.size, cap, cells, rfl, by simp, hnew, hcap, hcm, hlen, fun o => ⟨fun h => ?_, fun h => .inr ⟨rfl, h⟩⟩⟩
    rcases h with h | h
    · exact absurd (hS _ _ h) (Nat.lt_irrefl _)
    · exact h.2
  · refine RepD.mk hcap hm hsz (fun j x hx => ?_)
    have hlt := (List.getElem?_eq_some_iff.1 hx).1
    rw [length_flatten_const sz xs hsz] at hlt
    obtain ⟨v, hv, hr⟩ := hc j x hx
    refine ⟨.inr ⟨rfl, by omega⟩, v, ?_, hr.mono hst⟩
    rw [cell_of_row _ _ _ cells e (0, 0) hnew, Nat.zero_add]
    exact hv
  · refine ⟨hWt.1, hWt.2.1, hWt.2.2, by omega, fun b hb ho => ⟨hold b hb, by show (if b = w.heap.size then some q else ow b) = none; rw [if_neg (by omega)]; exact ho, fun o => ⟨fun h => ?_, .inl⟩⟩, hst⟩
    rcases h with h | h
    · exact h
    · omega
  · refine ⟨hst, fun b r hb hr => ⟨by show (if b = w.heap.size then some q else ow b) = some r; rw [if_neg (by have := hso b r hb; omega)]; exact hb, hold b (hso b r hb), fun o => ⟨fun h => ?_, .inl⟩⟩, fun _ => Nat.le_refl _, fun _ _ => rfl⟩
    rcases h with h | h
    · exact h
    · have := hso b r hb; omega
  · intro b o h
    rcases h with h | h
    · have := hS b o h; omega
    · omega
  · intro b r h
    simp only at h
    split at h
    · omega
    · have := hso b r h; omega

theorem append_core (hS : ∀ b o, S b o → b < w.heap.size) (hso : ∀ b p, ow b = some p → b < w.heap.size) {p q : Pl} {t t2 ty e sz bytes : Nat} {z : Value} (ht : P.underlying t = some (.slice e)) (hi : elemInfo P e = some (sz, bytes, z)) (hzs : z.cells.size = sz) (hby : 0 < bytes)
    {xs ys : List (List D)} {v u : Value} (ho : Own S ow w p e sz xs.length v) (hxs : RepD S w (.sl xs) v) (hxz : ∀ x ∈ xs, x.length = sz) {nv : List Value} (hsrc : SrcRep P S w e sz t2 u ys nv) (hyz : ∀ x ∈ ys, x.length = sz)
    (hb : (xs.length + ys.length) * bytes ≤ 140737488355328) (box : Tab) :
    ∃ v' w' S' ow', (Builtin.append_ #[t, t2] ty #[v, u]).run P w = .ok v' w' ∧ Own S' ow' w' q e sz (xs ++ ys).length v' ∧ RepD S' w' (.sl (xs ++ ys)) v' ∧ Kept w S ow w' S' ow' ∧ Ext (fun r => r = p ∨ r = q) S loc box ow w S' loc box ow' w' ∧
      (∀ b o, S' b o → b < w'.heap.size) ∧ (∀ b r, ow' b = some r → b < w'.heap.size) := by
  obtain ⟨i, hi1, hi2, hi3, hi4⟩ := elemInfo_spec hi
  obtain ⟨s1, s2, s3, s4, s5, d2, s6, s7⟩ := hsrc
  have hlen : xs.length + ys.length ≤ 140737488355328 := Nat.le_trans (Nat.le_mul_of_pos_right _ hby) hb
  have hall : ∀ x ∈ xs ++ ys, x.length = sz := fun x hx => by
    rcases List.mem_append.1 hx with h | h
    · exact hxz x h
    · exact hyz x h
  have hflx := length_flatten_const sz xs hxz
  by_cases hy : ys = []
  · subst hy
    have hnv : nv = [] := List.eq_nil_of_length_eq_zero (by simpa using s2)
    subst hnv
    obtain ⟨b, c, rfl, hc, _⟩ := hxs.sl_inv
    have hr := run_app_zero (P := P) (w := w) t t2 ty e i u ht hi1 s6 s7 s1 (by rw [hi3]; exact s3 w (fun _ _ _ => rfl)) b xs.length c hc
    refine ⟨_, w, S, mvOw ow p q, hr, by simpa using Own.mv ho, by simpa using hxs, Kept.mv, Ext.mv p q (.inl rfl), hS, mvOw_lt hso⟩
  · have hypos : 0 < ys.length := List.length_pos_iff.2 hy
    have hfitc : ∀ c, c < xs.length + ys.length → Builtin.nextslicecap (xs.length + ys.length) c * i.bytes ≤ 281474976710656 := fun c hc => by rw [hi4]; exact growslice_fits hc hb
    have hcapge := fun c => grownCap_ge w (xs.length + ys.length) c e
    have hcaple := fun c => grownCap_le_maxLen w (xs.length + ys.length) c e (by simp only [maxLen]; omega)
    -- the way that makes a new row
    have grow : ∀ (b : Option Addr) (c : Nat) (olds : List Value), v = .slice b xs.length c → (Builtin.firstCells i.size xs.length (.slice b xs.length c)).run P w.drew = .ok olds.toArray w.drew → olds.length = xs.length * sz →
        (∀ (j : Nat) x, xs.flatten[j]? = some x → ∃ v, olds[j]? = some v ∧ RepD S w x v) → c < xs.length + ys.length →
        ∃ v' w' S' ow', (Builtin.append_ #[t, t2] ty #[v, u]).run P w = .ok v' w' ∧ Own S' ow' w' q e sz (xs ++ ys).length v' ∧ RepD S' w' (.sl (xs ++ ys)) v' ∧ Kept w S ow w' S' ow' ∧ Ext (fun r => r = p ∨ r = q) S loc box ow w S' loc box ow' w' ∧
          (∀ b o, S' b o → b < w'.heap.size) ∧ (∀ b r, ow' b = some r → b < w'.heap.size) := by
      intro b c olds hv hfo hol hor hc
      subst hv
      have hr := run_app_grow (P := P) (w := w) t t2 ty e i u ys.length nv z ht hi1 hi2 s6 s7 s1 (by rw [hi3]; exact s3 w.drew (fun _ _ _ => rfl)) b xs.length c olds hfo hc (by omega) (hfitc c hc)
      have hsz2 : (olds.toArray ++ nv.toArray ++ Builtin.zeroCells z.cells (grownCap w (xs.length + ys.length) c e - (xs.length + ys.length))).size = grownCap w (xs.length + ys.length) c e * sz := by
        simp only [Array.size_append, List.size_toArray, size_zeroCells, hzs, hol, s2, ← Nat.add_mul]
        congr 1
        have := hcapge c
        omega
      obtain ⟨S', ow', f1, f2, f3, f4, f5, f6⟩ := fresh_core (loc := loc) (e := e) hS hso (xs := xs ++ ys) (cap := grownCap w (xs.length + ys.length) c e) (W := w.drew) (.inr rfl) hall (by simpa using hcapge c) (hcaple c) hsz2 (by simp; omega) (fun j x hx => by
        rw [List.flatten_append] at hx
        by_cases hj : j < xs.flatten.length
        · rw [List.getElem?_append_left hj] at hx
          obtain ⟨v, hv, hr⟩ := hor j x hx
          refine ⟨v, ?_, hr⟩
          rw [Array.append_assoc, Array.getElem?_append_left (by simp; omega)]
          simpa using hv
        · rw [List.getElem?_append_right (by omega)] at hx
          have hjl := (List.getElem?_eq_some_iff.1 hx).1
          rw [length_flatten_const sz ys hyz] at hjl
          obtain ⟨v, hv, hr⟩ := s4 _ x hx
          refine ⟨v, ?_, hr⟩
          rw [Array.append_assoc, Array.getElem?_append_right (by simp; omega), Array.getElem?_append_left (by simp; omega)]
          simp only [List.size_toArray, List.getElem?_toArray, hol, ← hflx]
          exact hv) p q box
      rw [List.length_append] at f1 f2
      exact ⟨_, _, S', ow', hr, by rw [List.length_append]; exact f1, f2, f3, f4, f5, f6⟩
    rcases ho with ⟨⟨a0, rfl⟩, hn⟩ | ⟨g, c, cur, rfl, hg, hh, h1, h2, h3, h4⟩
    · have hx : xs = [] := List.eq_nil_of_length_eq_zero hn
      subst hx
      exact grow a0 0 [] rfl (by cases a0 <;> simp [Builtin.firstCells, loadCells, loadCellsFrom]) (by simp) (fun j x hx => by simp at hx) (by simpa using hypos)
    · have hrow : RowD S w g 0 xs.flatten := hxs.flat
      have hcur : ∀ (j : Nat) x, xs.flatten[j]? = some x → ∃ v, cur[j]? = some v ∧ RepD S w x v := by
        intro j x hx
        obtain ⟨_, v, hv, hr⟩ := hrow j x hx
        rw [cell_of_row w g (0 + j) cur e (0, 0) hh, Nat.zero_add] at hv
        exact ⟨v, hv, hr⟩
      have hnc : xs.length * sz ≤ cur.size := by rw [h3]; exact Nat.mul_le_mul_right _ h1
      by_cases hroom : xs.length + ys.length ≤ c
      · have hfit : xs.length * i.size + nv.length ≤ cur.size := by rw [hi3, s2, h3, ← Nat.add_mul]; exact Nat.mul_le_mul_right _ hroom
        have hr := run_app_room (P := P) (w := w) t t2 ty e i u ys.length nv ht hi1 s6 s7 s1 (by rw [hi3]; exact s3 w (fun _ _ _ => rfl)) g xs.length c cur hh s5 hroom hfit
        rw [hi3] at hr hfit
        generalize hnewc : (cur.toList.take (xs.length * sz) ++ nv ++ cur.toList.drop (xs.length * sz + nv.length)).toArray = newc at hr
        have hnew : (w.setRow g newc).heap[g]? = some (.cells newc e (0, 0)) := setRow_heap w g cur newc e (0, 0) hh
        have hne : ∀ b o, S b o → b ≠ g ∨ o < xs.length * sz := fun b o hs => by
          by_cases hb : b = g
          · subst hb; exact .inr ((h4 o).1 hs)
          · exact .inl hb
        have hpre : ∀ o, o < xs.length * sz → newc[o]? = cur[o]? := by
          intro o ho
          rw [← hnewc]
          simp only [List.getElem?_toArray, List.append_assoc]
          rw [List.getElem?_append_left (by simp; omega), List.getElem?_take, if_pos ho]
          simp
        have hcell : ∀ b o, S b o → (w.setRow g newc).cell? ⟨b, o, none⟩ = w.cell? ⟨b, o, none⟩ := by
          intro b o hs
          rcases hne b o hs with hb | hb
          · exact cell_setRow_other w g newc ⟨b, o, none⟩ hb
          · by_cases hbg : b = g
            · subst hbg
              rw [cell_setRow_same w b o cur newc e (0, 0) hh, cell_of_row w b o cur e (0, 0) hh]
              exact hpre o hb
            · exact cell_setRow_other w g newc ⟨b, o, none⟩ hbg
        have hst : ∀ b o, S b o → (S b o ∨ (b = g ∧ o < (xs.length + ys.length) * sz)) ∧ (w.setRow g newc).cell? ⟨b, o, none⟩ = w.cell? ⟨b, o, none⟩ := fun b o hs => ⟨.inl hs, hcell b o hs⟩
        have hgs : g < w.heap.size := (Array.getElem?_eq_some_iff.1 hh).1
        refine ⟨_, _, fun b o => S b o ∨ (b = g ∧ o < (xs.length + ys.length) * sz), mvOw ow p q, hr, ?_, ?_, ?_, ?_, ?_, ?_⟩
        · refine .inr ⟨g, c, newc, by rw [List.length_append], by simp [mvOw, hg], hnew, by simpa using hroom, h2, ?_, fun o => ⟨fun h => ?_, fun h => .inr ⟨rfl, by simpa using h⟩⟩⟩
          · rw [← hnewc]
            simp only [List.size_toArray, List.length_append, List.length_take, List.length_drop, Array.length_toList]
            omega
          · rw [List.length_append]
            rcases h with h | h
            · have := (h4 o).1 h
              rw [Nat.add_mul]
              omega
            · exact h.2
        · have := RepD.mk (S := fun b o => S b o ∨ (b = g ∧ o < (xs.length + ys.length) * sz)) (w := w.setRow g newc) (xs := xs ++ ys) (g := g) (o := 0) (c := c) (by simpa using hroom) (by simp; omega) hall (fun j x hx => by
            have hlt := (List.getElem?_eq_some_iff.1 hx).1
            rw [length_flatten_const sz _ hall, List.length_append] at hlt
            refine ⟨.inr ⟨rfl, by omega⟩, ?_⟩
            rw [Nat.zero_add, cell_setRow_same w g j cur newc e (0, 0) hh]
            rw [List.flatten_append] at hx
            by_cases hj : j < xs.flatten.length
            · rw [List.getElem?_append_left hj] at hx
              obtain ⟨v, hv, hr⟩ := hcur j x hx
              exact ⟨v, by rw [hpre j (by omega)]; exact hv, hr.mono hst⟩
            · rw [List.getElem?_append_right (by omega)] at hx
              have hjl := (List.getElem?_eq_some_iff.1 hx).1
              rw [length_flatten_const sz ys hyz] at hjl
              obtain ⟨v, hv, hr⟩ := s4 _ x hx
              refine ⟨v, ?_, hr.mono hst⟩
              rw [← hnewc]
              simp only [List.getElem?_toArray, List.append_assoc]
              have htk : (cur.toList.take (xs.length * sz)).length = xs.length * sz := by rw [List.length_take, Array.length_toList (xs := cur)]; omega
              rw [List.getElem?_append_right (by rw [htk]; omega), htk, List.getElem?_append_left (by rw [s2]; omega), ← hflx]
              exact hv)
          rw [List.length_append] at this
          exact this
        · refine ⟨rfl, rfl, rfl, by simp, fun b hb ho => ⟨setRow_other w g b newc (by rintro rfl; rw [hg] at ho; cases ho), by simp [mvOw, ho], fun o => ⟨fun h => ?_, .inl⟩⟩, hst⟩
          rcases h with h | ⟨rfl, _⟩
          · exact h
          · rw [hg] at ho; cases ho
        · refine ⟨hst, fun b r hbr hr => ?_, fun _ => Nat.le_refl _, fun _ _ => rfl⟩
          have hbg : b ≠ g := by rintro rfl; rw [hg] at hbr; cases hbr; exact hr (.inl rfl)
          refine ⟨?_, setRow_other w g b newc hbg, fun o => ⟨fun h => ?_, .inl⟩⟩
          · simp only [mvOw]
            rw [if_neg (by rw [hbr]; intro e; cases e; exact hr (.inl rfl))]
            exact hbr
          · rcases h with h | ⟨rfl, _⟩
            · exact h
            · exact absurd rfl hbg
        · intro b o h
          rw [setRow_size]
          rcases h with h | ⟨rfl, _⟩
          · exact hS b o h
          · exact hgs
        · intro b r h
          rw [setRow_size]
          exact mvOw_lt hso b r h
      · have htl : (cur.toList.take (xs.length * sz)).length = xs.length * sz := by rw [List.length_take, Array.length_toList (xs := cur)]; omega
        refine grow (some ⟨g, 0, none⟩) c (cur.toList.take (xs.length * sz)) rfl ?_ htl (fun j x hx => ?_) (by omega)
        · rw [hi3]
          refine run_firstCells_some (P := P) w.drew sz xs.length ⟨g, 0, none⟩ xs.length c _ htl (fun j u hj => ?_)
          rw [add_none, World.cell?_drew, cell_of_row w g (0 + j) cur e (0, 0) hh, Nat.zero_add]
          rw [List.getElem?_take] at hj
          split at hj
          · simpa using hj
          · cases hj
        · obtain ⟨v, hv, hr⟩ := hcur j x hx
          have hlt := (List.getElem?_eq_some_iff.1 hx).1
          refine ⟨v, ?_, hr⟩
          rw [List.getElem?_take, if_pos (by omega)]
          simpa using hv

end
end Go.V

