/- The value machine, part 7: slicing, conversion to a string, choice, a struct's build, a copy. -/
import Derived.Test.YtglmbheeplndpaaV6
set_option linter.all false
set_option linter.unusedSimpArgs false
set_option linter.unusedVariables false
namespace Go.V
open Go

section
variable {P : Program} {S : Stab} {loc : Nat → Nat} {ow : Nat → Option Pl} {w : World} {N : Nat} {st : VSt} {vals : Nat → Value}

/-- A bound as the model has it. -/
def BoundRep (b : Option Int) (v : Option Value) : Prop := (b = none ∧ v = none) ∨ ∃ n k, b = some n ∧ v = some (.int k n)

theorem run_sb (k : IntKind) (i : Int) (y : Nat) (code : BoundsCode) (h0 : 0 ≤ i) (h1 : i ≤ y) : (Instr.sliceBound (.int k i) y code).run P w = .ok i.toNat w := by
  simp only [Instr.sliceBound, asIntOf, Sem.run_bind, Sem.run_pure, Result.andThen_ok, h0, h1, and_self, if_true]

theorem run_bounds {len cap : Nat} {l h m : Option Int} {lo hi mx : Option Value} (hl : BoundRep l lo) (hh : BoundRep h hi) (hm : BoundRep m mx) (hmh : m ≠ none → h ≠ none) (isSlice : Bool)
    (h0 : 0 ≤ l.getD 0) (h1 : l.getD 0 ≤ h.getD len) (h2 : h.getD len ≤ m.getD cap) (h3 : m.getD cap ≤ cap) :
    (Instr.sliceBounds isSlice len cap lo hi mx).run P w = .ok ((l.getD 0).toNat, (h.getD len).toNat, (m.getD cap).toNat) w := by
  rcases hm with ⟨rfl, rfl⟩ | ⟨nm, km, rfl, rfl⟩
  · rcases hh with ⟨rfl, rfl⟩ | ⟨nh, kh, rfl, rfl⟩
    · rcases hl with ⟨rfl, rfl⟩ | ⟨nl, kl, rfl, rfl⟩
      · simp [Instr.sliceBounds]
      · simp only [Option.getD_none, Option.getD_some] at *
        simp only [Instr.sliceBounds, Sem.run_bind, Sem.run_pure, Result.andThen_ok, run_sb (P := P) (w := w) kl nl len _ h0 h1, Int.toNat_natCast]
    · rcases hl with ⟨rfl, rfl⟩ | ⟨nl, kl, rfl, rfl⟩
      · simp only [Option.getD_none, Option.getD_some] at *
        simp only [Instr.sliceBounds, Sem.run_bind, Sem.run_pure, Result.andThen_ok, run_sb (P := P) (w := w) kh nh cap _ h1 h2, Int.toNat_natCast, Int.toNat_zero]
      · simp only [Option.getD_none, Option.getD_some] at *
        simp only [Instr.sliceBounds, Sem.run_bind, Sem.run_pure, Result.andThen_ok, run_sb (P := P) (w := w) kh nh cap _ (by omega) h2, run_sb (P := P) (w := w) kl nl nh.toNat _ h0 (by omega), Int.toNat_natCast]
  · rcases hh with ⟨rfl, rfl⟩ | ⟨nh, kh, rfl, rfl⟩
    · exact absurd rfl (hmh (fun e => by cases e))
    · rcases hl with ⟨rfl, rfl⟩ | ⟨nl, kl, rfl, rfl⟩
      · simp only [Option.getD_none, Option.getD_some] at *
        simp only [Instr.sliceBounds, Sem.run_bind, Sem.run_pure, Result.andThen_ok, run_sb (P := P) (w := w) km nm cap _ (by omega) h3, run_sb (P := P) (w := w) kh nh nm.toNat _ (by omega) (by omega), Int.toNat_zero]
      · simp only [Option.getD_some] at *
        simp only [Instr.sliceBounds, Sem.run_bind, Sem.run_pure, Result.andThen_ok, run_sb (P := P) (w := w) km nm cap _ (by omega) h3, run_sb (P := P) (w := w) kh nh nm.toNat _ (by omega) (by omega), run_sb (P := P) (w := w) kl nl nh.toNat _ h0 (by omega)]

theorem does_slice (h : HH S loc ow w N st.env vals st.box) {i : Nat} {x : SV} {v : Value} (hv : RepV S loc st.box ow w i x v) {xs : List (List D)} (hx : x.elems = some xs) {t e : TypeId} (ht : P.underlying t = some (.slice e)) {agg : Bool} {sz : Nat} (he : tyInfo P e = some (agg, sz))
    {l hb m : Option Int} {lo hi mx : Option Value} (hl : BoundRep l lo) (hh : BoundRep hb hi) (hm : BoundRep m mx) (hmh : m ≠ none → hb ≠ none)
    (h0 : 0 ≤ l.getD 0) (h1 : l.getD 0 ≤ hb.getD xs.length) (h2 : hb.getD xs.length ≤ m.getD xs.length) (h3 : m.getD xs.length ≤ xs.length) (hsz : l.getD 0 = 0 ∨ ∀ x ∈ xs, x.length = sz)
    (dst : Option Nat) {sem : Sem Next} (hs : sem = do pure (.value (← Instr.sliceAt t v lo hi mx))) :
    Does P sem N st vals S loc ow w dst { val := .c (.d (.sl ((xs.take (hb.getD xs.length).toNat).drop (l.getD 0).toNat))) } := by
  subst hs
  have hrep := hv.elems hx
  obtain ⟨a, c, rfl, hc, hmx⟩ := hrep.sl_inv
  have hb' := run_bounds (P := P) (w := w) (len := xs.length) (cap := c) hl hh hm hmh true h0 h1 (by cases m <;> simp only [Option.getD_none, Option.getD_some] at * <;> omega) (by cases m <;> simp only [Option.getD_none, Option.getD_some] at * <;> omega)
  have h2' := (run_tyInfo he w).2
  have hrun : (Instr.sliceAt t (.slice a xs.length c) lo hi mx).run P w = .ok (.slice (if (m.getD c).toNat = (l.getD 0).toNat then a else a.map (·.add ((l.getD 0).toNat * sz))) ((hb.getD xs.length).toNat - (l.getD 0).toNat) ((m.getD c).toNat - (l.getD 0).toNat)) w := by
    simp only [Instr.sliceAt, Sem.run_bind, run_underlying ht, Result.andThen_ok, Instr.slice, hb', h2', Sem.run_pure]
  refine Does.val h (by simp only [Sem.run_bind, hrun, Result.andThen_ok]; rfl) dst _ (fun d => ?_)
  have hlen : ((xs.take (hb.getD xs.length).toNat).drop (l.getD 0).toNat).length = (hb.getD xs.length).toNat - (l.getD 0).toNat := by
    simp only [List.length_drop, List.length_take]
    omega
  show RepD S w (.sl _) _
  rw [← hlen]
  by_cases hnil : (xs.take (hb.getD xs.length).toNat).drop (l.getD 0).toNat = []
  · rw [hnil]
    exact RepD.nil _ _
  · have hlt : (l.getD 0).toNat < (hb.getD xs.length).toNat := by
      have := List.length_pos_iff.2 hnil
      omega
    have hmc : (hb.getD xs.length).toNat ≤ (m.getD c).toNat := by cases m <;> simp only [Option.getD_none, Option.getD_some] at * <;> omega
    rw [if_neg (by omega)]
    cases hrep with
    | sl _ _ _ sz' val hc' hm' hz ha hr =>
      obtain ⟨g, o, rfl, hcells⟩ := ha (by rintro rfl; simp at hnil)
      have hz2 : ∀ x ∈ (xs.take (hb.getD xs.length).toNat).drop (l.getD 0).toNat, x.length = sz' := fun x hx => hz x (List.mem_of_mem_take (List.mem_of_mem_drop hx))
      have hoff : (l.getD 0).toNat * sz = (l.getD 0).toNat * sz' := by
        rcases hsz with h | h
        · rw [h]; simp
        · congr 1
          cases xs with
          | nil => simp at hnil
          | cons x xs => rw [← h x (by simp), hz x (by simp)]
      simp only [Option.map_some, add_none]
      rw [hoff]
      refine RepD.mk (sz := sz') (by rw [hlen]; omega) (by rw [hlen]; omega) hz2 ?_
      intro j x hx
      -- the cells of the rest
      have hfl : ((xs.take (hb.getD xs.length).toNat).drop (l.getD 0).toNat).flatten[j]? = xs.flatten[(l.getD 0).toNat * sz' + j]? ∨ ¬ j < ((xs.take (hb.getD xs.length).toNat).drop (l.getD 0).toNat).flatten.length := by
        by_cases hj : j < ((xs.take (hb.getD xs.length).toNat).drop (l.getD 0).toNat).flatten.length
        · left
          have e1 : xs.flatten = (xs.take (l.getD 0).toNat).flatten ++ (((xs.take (hb.getD xs.length).toNat).drop (l.getD 0).toNat).flatten ++ (xs.drop (hb.getD xs.length).toNat).flatten) := by
            rw [← List.flatten_append, ← List.flatten_append]
            congr 1
            have e2 : xs.take (l.getD 0).toNat = (xs.take (hb.getD xs.length).toNat).take (l.getD 0).toNat := by
              rw [List.take_take]
              congr 1
              omega
            rw [e2, ← List.append_assoc, List.take_append_drop, List.take_append_drop]
          have e3 : (xs.take (l.getD 0).toNat).flatten.length = (l.getD 0).toNat * sz' := by
            rw [length_flatten_const sz' _ (fun x hx => hz x (List.mem_of_mem_take hx)), List.length_take]
            congr 1
            omega
          rw [e1, List.getElem?_append_right (by rw [e3]; omega), e3]
          rw [show (l.getD 0).toNat * sz' + j - (l.getD 0).toNat * sz' = j by omega]
          rw [List.getElem?_append_left hj]
        · exact .inr hj
      have hjlt := (List.getElem?_eq_some_iff.1 hx).1
      rcases hfl with hfl | hfl
      · rw [hfl] at hx
        have hk := (List.getElem?_eq_some_iff.1 hx).1
        rw [length_flatten_const sz' xs hz] at hk
        obtain ⟨s1, s2⟩ := hcells _ hk
        rw [← Nat.add_assoc] at s1 s2
        exact ⟨s1, _, s2, hr _ _ hx⟩
      · exact absurd hjlt hfl

/-- a slice of a slice over a box -/
theorem does_sliceM (h : HH S loc ow w N st.env vals st.box) {i : Nat} {v : Value} {k ver off len : Nat} (hv : RepV S loc st.box ow w i (.c (.msl k ver off len)) v) {t e : TypeId} (ht : P.underlying t = some (.slice e)) {agg : Bool} {sz : Nat} (he : tyInfo P e = some (agg, sz))
    {l hb m : Option Int} {lo hi mx : Option Value} (hl : BoundRep l lo) (hh : BoundRep hb hi) (hm : BoundRep m mx) (hmh : m ≠ none → hb ≠ none) {x : SV} (hx : resl sz k ver off len l hb m = some x)
    (dst : Option Nat) {sem : Sem Next} (hs : sem = do pure (.value (← Instr.sliceAt t v lo hi mx))) :
    Does P sem N st vals S loc ow w dst { val := x } := by
  subst hs
  unfold resl at hx
  split at hx
  · rename_i hcond
    obtain ⟨h0, h1, h2, h3⟩ := hcond
    cases hx
    obtain ⟨a, c, rfl, hc, hmx, hver, hloc⟩ := hv.cinv
    have hb' := run_bounds (P := P) (w := w) (len := len) (cap := c) hl hh hm hmh true h0 h1 (by cases m <;> simp only [Option.getD_none, Option.getD_some] at * <;> omega) (by cases m <;> simp only [Option.getD_none, Option.getD_some] at * <;> omega)
    have h2' := (run_tyInfo he w).2
    have hrun : (Instr.sliceAt t (.slice a len c) lo hi mx).run P w = .ok (.slice (if (m.getD c).toNat = (l.getD 0).toNat then a else a.map (·.add ((l.getD 0).toNat * sz))) ((hb.getD len).toNat - (l.getD 0).toNat) ((m.getD c).toNat - (l.getD 0).toNat)) w := by
      simp only [Instr.sliceAt, Sem.run_bind, run_underlying ht, Result.andThen_ok, Instr.slice, hb', h2', Sem.run_pure]
    refine Does.val h (by simp only [Sem.run_bind, hrun, Result.andThen_ok]; rfl) dst _ (fun d => ?_)
    have hmc : (hb.getD len).toNat ≤ (m.getD c).toNat := by cases m <;> simp only [Option.getD_none, Option.getD_some] at * <;> omega
    refine (show RepC S loc st.box ow w (.slot d 0) (.msl k ver _ _) _ from ⟨_, _, rfl, by omega, by omega, hver, fun hp => ?_⟩)
    obtain ⟨b, rfl, hb2⟩ := hloc (by omega)
    rw [if_neg (by omega)]
    exact ⟨_, rfl, fun hv => by rw [hb2 hv]; exact add_none _ _ _⟩
  · cases hx

/-- a slice of an array -/
theorem does_sliceArr (h : HH S loc ow w N st.env vals st.box) {i : Nat} {v : Value} {k ver off len : Nat} (hv : RepV S loc st.box ow w i (.c (.ptr k ver off)) v) {t e : TypeId} (ht : P.underlying t = some (.array len e)) {agg : Bool} {sz : Nat} (he : tyInfo P e = some (agg, sz)) (hlen : len ≤ 281474976710656)
    {l hb : Option Int} {lo hi : Option Value} (hl : BoundRep l lo) (hh : BoundRep hb hi) {x : SV} (hx : resl sz k ver off len l hb none = some x)
    (dst : Option Nat) {sem : Sem Next} (hs : sem = do pure (.value (← Instr.sliceAt t v lo hi none))) :
    Does P sem N st vals S loc ow w dst { val := x } := by
  subst hs
  unfold resl at hx
  split at hx
  · rename_i hcond
    obtain ⟨h0, h1, h2, h3⟩ := hcond
    cases hx
    obtain ⟨a, rfl, hver, hloc⟩ := hv.cinv
    have hb' := run_bounds (P := P) (w := w) (len := len) (cap := len) hl hh (.inl ⟨rfl, rfl⟩ : BoundRep none none) (by simp) false h0 h1 (by simpa using h2) (by simp)
    have h2' := (run_tyInfo he w).2
    have hrun : (Instr.sliceAt t (.pointer (some a)) lo hi none).run P w = .ok (.slice (some (if len = (l.getD 0).toNat then a else a.add ((l.getD 0).toNat * sz))) ((hb.getD len).toNat - (l.getD 0).toNat) (len - (l.getD 0).toNat)) w := by
      simp only [Instr.sliceAt, Sem.run_bind, run_underlying ht, Result.andThen_ok, Instr.sureAddr, hb', h2', Sem.run_pure, Option.getD_none, Int.toNat_natCast]
    refine Does.val h (by simp only [Sem.run_bind, hrun, Result.andThen_ok]; rfl) dst _ (fun d => ?_)
    simp only [Option.getD_none] at h2 h3
    refine (show RepC S loc st.box ow w (.slot d 0) (.msl k ver _ _) _ from ⟨_, _, rfl, by omega, by omega, hver, fun hp => ?_⟩)
    rw [if_neg (by omega)]
    exact ⟨_, rfl, fun hv => by rw [hloc hv, add_none]⟩
  · cases hx

theorem does_sliceStr (h : HH S loc ow w N st.env vals st.box) {i : Nat} {b : ByteArray} {v : Value} (hv : RepV S loc st.box ow w i (.c (.d (.v (.string b)))) v) {t : TypeId} (ht : P.underlying t = some .string)
    {l hb : Option Int} {lo hi : Option Value} (hl : BoundRep l lo) (hh : BoundRep hb hi)
    (h0 : 0 ≤ l.getD 0) (h1 : l.getD 0 ≤ hb.getD b.size) (h2 : hb.getD b.size ≤ b.size)
    (dst : Option Nat) {sem : Sem Next} (hs : sem = do pure (.value (← Instr.sliceAt t v lo hi none))) :
    Does P sem N st vals S loc ow w dst { val := .c (.d (.v (.string (b.extract (l.getD 0).toNat (hb.getD b.size).toNat)))) } := by
  subst hs
  rw [hv.atom]
  have hb' := run_bounds (P := P) (w := w) (len := b.size) (cap := b.size) (m := none) (mx := none) hl hh (.inl ⟨rfl, rfl⟩) (fun h => absurd rfl h) false h0 h1 (by simpa using h2) (by simp)
  refine does_atom h dst ?_ rfl
  simp only [Instr.sliceAt, Sem.run_bind, run_underlying ht, Result.andThen_ok, Instr.slice, Option.isSome_none, Bool.false_eq_true, if_false, hb', Sem.run_pure]

theorem numsOf_spec : ∀ {xs : List (List D)} {l : List Int}, numsOf xs = some l → xs = l.map fun n => [.v (.int .u8 n)]
  | [], l, h => by simp only [numsOf, Option.some.injEq] at h; subst h; rfl
  | y :: r, l, h => by
    unfold numsOf at h
    split at h
    · rename_i hnil; cases hnil
    · rename_i n r' heq
      cases heq
      obtain ⟨l', hl', rfl⟩ := Option.map_eq_some_iff.1 h
      rw [numsOf_spec hl']
      rfl
    · cases h

theorem does_toStr (h : HH S loc ow w N st.env vals st.box) {i : Nat} {x : SV} {v : Value} (hv : RepV S loc st.box ow w i x v) {xs : List (List D)} (hx : x.elems = some xs) {l : List Int} (hl : numsOf xs = some l) {src d e : TypeId} (hs : P.underlying src = some (.slice e)) (he : P.underlying e = some (.int .u8)) (hd : P.underlying d = some .string)
    (dst : Option Nat) {sem : Sem Next} (hsem : sem = do pure (.value (← convert src d v))) : Does P sem N st vals S loc ow w dst { val := .c (.d (.v (.string (strOfNums l)))) } := by
  subst hsem
  have hrep := hv.elems hx
  have hxs := numsOf_spec hl
  have hrun : (convert src d v).run P w = .ok (.string (strOfNums l)) w := by
    obtain ⟨a, c, rfl, hc, hm⟩ := hrep.sl_inv
    cases a with
    | none =>
      have : xs = [] := by
        cases hrep with
        | sl _ _ _ sz val hc hm hz ha hr =>
          cases xs with
          | nil => rfl
          | cons x xs => obtain ⟨g, o, e, _⟩ := ha (by simp); cases e
      subst this
      have : l = [] := by cases l with | nil => rfl | cons _ _ => simp at hxs
      subst this
      exact run_convert_bytes_nil (P := P) (w := w) src e hs he _ _ d hd
    | some a =>
      by_cases hnil : xs = []
      · subst hnil
        have : l = [] := by cases l with | nil => rfl | cons _ _ => simp at hxs
        subst this
        obtain ⟨b, o, sp⟩ := a
        have hll : (loadCells ⟨b, o, sp⟩ 0).run P w = .ok #[] w := by simp [loadCells, loadCellsFrom]
        simp only [convert, Sem.run_bind, run_underlying hs, run_underlying hd, run_underlying he, Result.andThen_ok, Conv.bytesToString, List.length_nil, hll]
        simp [strOfNums]
        rfl
      · cases hrep with
        | sl _ _ _ sz val hc hm hz ha hr =>
          obtain ⟨g, o, ea, hcells⟩ := ha hnil
          cases ea
          have hlen : l.length = xs.length := by rw [hxs]; simp
          have hsz : sz = 1 := by
            cases xs with
            | nil => exact absurd rfl hnil
            | cons x xs' =>
              have h1 := hz x (by simp)
              cases l with
              | nil => simp at hlen
              | cons n l' =>
                simp only [List.map_cons, List.cons.injEq] at hxs
                rw [hxs.1] at h1
                simpa using h1.symm
          subst hsz
          refine run_convert_bytes_arg (P := P) w src e hs he g o xs.length c l hlen (fun j hj => ?_) d hd
          obtain ⟨s1, s2⟩ := hcells j (by omega)
          rw [s2]
          have hf := flatten_get 1 xs hz j 0 hj (by omega)
          have hj' : j < l.length := by omega
          have hx0 : (xs[j]'hj)[0]? = some (.v (.int .u8 (l[j]'hj'))) := by
            simp only [hxs, List.getElem_map]
            rfl
          rw [hx0] at hf
          simp only [Nat.mul_one, Nat.add_zero] at hf
          have := (hr j _ hf).v_inv
          rw [this]
          simp [List.getD, hj']
  exact does_atom h dst (by simp only [Sem.run_bind, hrun, Result.andThen_ok]; rfl) rfl

theorem does_pick (h : HH S loc ow w N st.env vals st.box) {i1 i2 i3 : Nat} {c a b : SV} {vc va vb : Value} (hc : RepV S loc st.box ow w i1 c vc) (ha : RepV S loc st.box ow w i2 a va) (hb : RepV S loc st.box ow w i3 b vb) {t : Bool} (ht : c.bool? = some t)
    (dst : Option Nat) {sem : Sem Next} (hs : sem = do pure (.value (if ← asBool vc then va else vb))) : Does P sem N st vals S loc ow w dst { val := if t then a.copy else b.copy } := by
  subst hs
  rw [hc.bool ht]
  refine Does.val h (v := if t then va else vb) (by cases t <;> rfl) dst _ (fun d => ?_)
  cases t
  · exact hb.copyAt d
  · exact ha.copyAt d

/-- a slice that is cut to nothing: its holder's own, for it has no room -/
theorem does_empty (h : HH S loc ow w N st.env vals st.box) {i : Nat} {x : SV} {v : Value} (hv : RepV S loc st.box ow w i x v) {xs : List (List D)} (hx : x.elems = some xs) {t e : TypeId} (ht : P.underlying t = some (.slice e)) {agg : Bool} {sz : Nat} (he : tyInfo P e = some (agg, sz))
    {lo : Option Value} {hb m : Int} {kh km : IntKind} (hlo : lo = none) (hh0 : hb = 0) (hm0 : m = 0) (dst : Option Nat) {sem : Sem Next} (hs : sem = do pure (.value (← Instr.sliceAt t v lo (some (.int kh hb)) (some (.int km m))))) :
    Does P sem N st vals S loc ow w dst { val := .c (.osl e sz []) } := by
  subst hs hlo hh0 hm0
  obtain ⟨a, c, rfl, hc, hmx⟩ := (hv.elems hx).sl_inv
  have hb' := run_bounds (P := P) (w := w) (len := xs.length) (cap := c) (l := none) (h := some 0) (m := some 0) (.inl ⟨rfl, rfl⟩) (.inr ⟨0, kh, rfl, rfl⟩) (.inr ⟨0, km, rfl, rfl⟩) (by simp) true (by simp) (by simp) (by simp) (by simp)
  have h2' := (run_tyInfo he w).2
  have hrun : (Instr.sliceAt t (.slice a xs.length c) none (some (.int kh 0)) (some (.int km 0))).run P w = .ok (.slice a 0 0) w := by
    simp only [Instr.sliceAt, Sem.run_bind, run_underlying ht, Result.andThen_ok, Instr.slice, hb', h2', Sem.run_pure, Option.getD_none, Option.getD_some, Int.toNat_zero, Nat.sub_self, if_true]
  refine Does.val h (by simp only [Sem.run_bind, hrun, Result.andThen_ok]; rfl) dst _ (fun d => ?_)
  exact (show RepC S loc st.box ow w (.slot d 0) (.osl e sz []) _ from ⟨RepD.nil _ _, by simp, .inl ⟨⟨a, rfl⟩, rfl⟩⟩)

end
end Go.V

