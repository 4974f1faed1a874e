/- The value machine, part 6: more instructions that turn no memory. -/
import Derived.Test.YtglmbheeplndpaaV5
set_option linter.all false
set_option linter.unusedSimpArgs false
set_option linter.unusedVariables false
namespace Go.V
open Go

section
variable {P : Program} {S : Stab} {loc : Nat → Nat} {ow : Nat → Option Pl} {w : World} {N : Nat} {st : VSt} {vals : Nat → Value}

/-- A value that owns nothing stands anywhere. -/
theorem RepV.copyAt {i : Nat} {x : SV} {v : Value} (h : RepV S loc st.box ow w i x v) (d : Nat) : RepV S loc st.box ow w d x.copy v := by
  cases x with
  | c c => exact RepC.copy (.slot d 0) h.cinv
  | agg xs =>
    obtain ⟨vs, rfl, hs, hm⟩ := (show RepV1 S loc st.box ow w i 0 (.agg xs) v from h)
    refine ⟨vs, rfl, by simp [hs], fun m c hc => ?_⟩
    rw [List.getElem?_map] at hc
    obtain ⟨c0, h0, rfl⟩ := Option.map_eq_some_iff.1 hc
    obtain ⟨_, u, hu, hr⟩ := hm m c0 h0
    exact ⟨isOsl_copy c0, u, hu, hr.copy _⟩
  | tup xs =>
    obtain ⟨vs, rfl, hs, hm⟩ := (show ∃ vs : Array Value, v = .tuple vs ∧ vs.size = xs.length ∧ ∀ (m : Nat) (x : SV), xs[m]? = some x → ∃ u, vs[m]? = some u ∧ RepV1 S loc st.box ow w i m x u from h)
    refine ⟨vs, rfl, by simp [hs], fun m x hx => ?_⟩
    rw [List.getElem?_map] at hx
    obtain ⟨x0, h0, rfl⟩ := Option.map_eq_some_iff.1 hx
    obtain ⟨u, hu, hr⟩ := hm m x0 h0
    refine ⟨u, hu, ?_⟩
    cases x0 with
    | c c => exact RepC.copy (.slot d m) (show RepC S loc st.box ow w (.slot i m) c u from hr)
    | agg ys =>
      obtain ⟨vs', rfl, hs', hm'⟩ := (show ∃ vs : Array Value, u = .agg vs ∧ vs.size = ys.length ∧ ∀ (m' : Nat) (c : C), ys[m']? = some c → isOsl c = false ∧ ∃ u, vs[m']? = some u ∧ RepC S loc st.box ow w (.slot i m) c u from hr)
      refine ⟨vs', rfl, by simp [hs'], fun m' c hc => ?_⟩
      rw [List.getElem?_map] at hc
      obtain ⟨c0, h0', rfl⟩ := Option.map_eq_some_iff.1 hc
      obtain ⟨_, u, hu, hr⟩ := hm' m' c0 h0'
      exact ⟨isOsl_copy c0, u, hu, hr.copy _⟩
    | tup ys => exact hr

theorem RepV.atomMk {v : Value} (h1 : v.oneCell' = true) (d : Nat) : RepV S loc st.box ow w d (.c (.d (.v v))) v := RepD.v v h1

theorem does_atom (h : HH S loc ow w N st.env vals st.box) (dst : Option Nat) {s : Sem Next} {v : Value} (hrun : s.run P w = .ok (.value v) w) (h1 : v.oneCell' = true) : Does P s N st vals S loc ow w dst { val := .c (.d (.v v)) } :=
  Does.val h hrun dst _ fun d => RepV.atomMk h1 d

/-- nilCheck -/
theorem does_nilCheck (h : HH S loc ow w N st.env vals st.box) {i : Nat} {x : SV} {v : Value} (hv : RepV S loc st.box ow w i x v) (hx : (∃ k ver o, x = .c (.ptr k ver o)) ∨ ∃ xs, x = .c (.cptr xs)) (dst : Option Nat) {s : Sem Next}
    (hs : ∀ a, v = .pointer (some a) → s = pure (.value v)) : Does P s N st vals S loc ow w dst { val := x } := by
  have ha : ∃ a, v = .pointer (some a) := by
    rcases hx with ⟨k, ver, o, rfl⟩ | ⟨xs, rfl⟩
    · obtain ⟨a, r1, _⟩ := hv.cinv; exact ⟨a, r1⟩
    · obtain ⟨g, o, r1, _⟩ := hv.cinv; exact ⟨_, r1⟩
  obtain ⟨a, rfl⟩ := ha
  refine Does.val h (v := .pointer (some a)) (by rw [hs a rfl]; rfl) dst x (fun d => ?_)
  rcases hx with ⟨k, ver, o, rfl⟩ | ⟨xs, rfl⟩
  · exact RepC.place (p := .slot i 0) (q := .slot d 0) rfl hv.cinv
  · exact RepC.place (p := .slot i 0) (q := .slot d 0) rfl hv.cinv

def cfield (P : Program) (s : TypeId) (f : Nat) : Option Nat :=
  match P.underlying s with
  | some (.struct fields) =>
    match fields[f]? with
    | some fld => match tyInfo P fld.type with | some (_, m) => if m = 0 then none else some fld.offset | none => none
    | none => none
  | _ => none

theorem run_fieldAt {s : TypeId} {f off : Nat} (hc : cfield P s f = some off) (a : Addr) : (Instr.fieldAt s (.pointer (some a)) f).run P w = .ok (.pointer (some (a.add off))) w := by
  unfold cfield at hc
  split at hc
  · rename_i fields hu
    split at hc
    · rename_i fld hf
      split at hc
      · rename_i a m ht
        split at hc
        · cases hc
        · rename_i hm
          cases hc
          have h2 := (run_tyInfo ht w).2
          simp only [Instr.fieldAt, Sem.run_bind, run_underlying hu, Result.andThen_ok, hf, Instr.sureAddr, Sem.run_pure, fieldPlace, h2, Sem.run_ite]
          rw [if_neg hm]
          rfl
      · cases hc
    · cases hc
  · cases hc

theorem does_fieldAddr (h : HH S loc ow w N st.env vals st.box) {i : Nat} {x : SV} {v : Value} (hv : RepV S loc st.box ow w i x v) {s : TypeId} {f off : Nat} (hc : cfield P s f = some off) (dst : Option Nat) {sem : Sem Next} (hs : sem = do pure (.value (← Instr.fieldAt s v f)))
    {out : Out} (ho : fieldAddrV off x = some out) : Does P sem N st vals S loc ow w dst out := by
  subst hs
  rcases x with (_ | _ | _ | ⟨k, ver, o⟩ | ⟨xs⟩ | _ | _) | _ | _ <;> (try (cases ho; done))
  · cases ho
    obtain ⟨a, rfl, r2, r3⟩ := hv.cinv
    refine Does.val h (v := .pointer (some (a.add off))) (by simp only [Sem.run_bind, run_fieldAt hc, Result.andThen_ok]; rfl) dst _ (fun d => ?_)
    exact ⟨_, rfl, r2, fun e => by rw [r3 e, add_none]⟩
  · simp only [fieldAddrV] at ho
    split at ho
    · cases ho
      obtain ⟨g, o, rfl, hrow⟩ := hv.cinv
      refine Does.val h (v := .pointer (some ⟨g, o + off, none⟩)) (by simp only [Sem.run_bind, run_fieldAt hc, Result.andThen_ok, add_none]; rfl) dst _ (fun d => ?_)
      exact ⟨g, o + off, rfl, RowD.drop hrow off⟩
    · cases ho

/-- field of a value -/
def cfieldV (P : Program) (s : TypeId) (f : Nat) : Option (Bool × Nat × Nat) :=
  match P.underlying s with
  | some (.struct fields) =>
    match fields[f]? with
    | some fld => match tyInfo P fld.type with | some (a, m) => some (a, fld.offset, m) | none => none
    | none => none
  | _ => none

theorem does_field (h : HH S loc ow w N st.env vals st.box) {i : Nat} {xs : List C} {v : Value} (hv : RepV S loc st.box ow w i (.agg xs) v) {s : TypeId} {f off n : Nat} {agg : Bool} (hc : cfieldV P s f = some (agg, off, n)) (hle : off + n ≤ xs.length)
    {x : SV} (hx : part agg n ((xs.drop off).take n) = some x) (dst : Option Nat) {sem : Sem Next} (hs : sem = do pure (.value (← Instr.field s v f))) : Does P sem N st vals S loc ow w dst { val := x } := by
  subst hs
  obtain ⟨vs, rfl, hsz, hm⟩ := (show RepV1 S loc st.box ow w i 0 (.agg xs) v from hv)
  refine Does.val h (v := if agg then .agg ((vs.toList.drop off).take n).toArray else ((vs.toList.drop off).take n).headD undef) ?_ dst x (part_rep hx _ (by simp; omega) (fun j c hc' => ?_))
  · unfold cfieldV at hc
    split at hc
    · rename_i fields hu
      split at hc
      · rename_i fld hf
        split at hc
        · rename_i a m ht
          cases hc
          obtain ⟨h1, h2⟩ := run_tyInfo ht w
          simp only [Instr.field, Sem.run_bind, run_underlying hu, Result.andThen_ok, hf, Go.part, asAgg, Sem.run_pure, h1]
          cases agg with
          | true =>
            simp only [if_true, Sem.run_bind, h2, Result.andThen_ok, Sem.run_pure]
            congr 3
            apply Array.ext'
            simp [Array.toList_extract]
          | false =>
            obtain ⟨hn1, _⟩ := part_one hx
            subst hn1
            simp only [Bool.false_eq_true, if_false]
            have hlt : fld.offset < vs.size := by omega
            have : vs[fld.offset]? = some vs[fld.offset] := Array.getElem?_eq_getElem hlt
            simp only [this, Sem.run_pure, Result.andThen_ok]
            have e : (vs.toList.drop fld.offset).take 1 = [vs[fld.offset]] := by
              rw [List.drop_eq_getElem_cons (by simpa using hlt)]
              simp
            rw [e]
            rfl
        · cases hc
      · cases hc
    · cases hc
  · rw [List.getElem?_take, List.getElem?_drop] at hc'
    split at hc'
    · obtain ⟨_, u, hu, hd⟩ := hm _ c hc'
      refine ⟨u, _, ?_, hd⟩
      rw [List.getElem?_take, if_pos ‹_›, List.getElem?_drop]
      simpa using hu
    · cases hc'

/-- an element's address: of a slice -/
theorem does_indexAddr (h : HH S loc ow w N st.env vals st.box) {i i' : Nat} {x y : SV} {v u : Value} (hv : RepV S loc st.box ow w i x v) (hu : RepV S loc st.box ow w i' y u) {t e : TypeId} (ht : P.underlying t = some (.slice e)) {agg : Bool} {sz : Nat} (he : tyInfo P e = some (agg, sz))
    {xs : List (List D)} {n : Int} (hx : x.elems = some xs) (hy : y.int? = some n) (h0 : 0 ≤ n) (h1 : n.toNat < xs.length) (hsz : (xs[n.toNat]'h1).length = sz) (dst : Option Nat) {sem : Sem Next} (hs : sem = do pure (.value (← Instr.indexAt t v u))) :
    Does P sem N st vals S loc ow w dst { val := .c (.cptr (xs[n.toNat]'h1)) } := by
  subst hs
  obtain ⟨g, o, c, sz', rfl, hl, hrow⟩ := (hv.elems hx).elem n.toNat h1
  obtain ⟨k, rfl⟩ := hu.int hy
  have : sz' = sz := by omega
  subst this
  have h2 := (run_tyInfo he w).2
  refine Does.val h (v := .pointer (some ⟨g, o + n.toNat * sz', none⟩)) ?_ dst _ (fun d => ?_)
  · have hb : (0 : Int) ≤ n ∧ n < (xs.length : Int) := ⟨h0, by omega⟩
    simp only [Instr.indexAt, asIntOf, Sem.run_bind, Sem.run_pure, Result.andThen_ok, run_underlying ht, hb, and_self, if_true, h2, add_none]
  · exact (show RepC S loc st.box ow w (.slot d 0) (.cptr _) _ from ⟨g, _, rfl, hrow⟩)

/-- of a slice over a box -/
theorem does_indexM (h : HH S loc ow w N st.env vals st.box) {i i' : Nat} {y : SV} {v u : Value} {bk ver off len : Nat} (hv : RepV S loc st.box ow w i (.c (.msl bk ver off len)) v) (hu : RepV S loc st.box ow w i' y u) {t e : TypeId} (ht : P.underlying t = some (.slice e)) {agg : Bool} {sz : Nat} (he : tyInfo P e = some (agg, sz))
    {n : Int} (hy : y.int? = some n) (h0 : 0 ≤ n) (h1 : n.toNat < len) (dst : Option Nat) {sem : Sem Next} (hs : sem = do pure (.value (← Instr.indexAt t v u))) :
    Does P sem N st vals S loc ow w dst { val := .c (.ptr bk ver (off + n.toNat * sz)) } := by
  subst hs
  obtain ⟨a, c, rfl, hc, hm, hver, hloc⟩ := hv.cinv
  obtain ⟨a0, rfl, hloc2⟩ := hloc (by omega)
  obtain ⟨k, rfl⟩ := hu.int hy
  have h2 := (run_tyInfo he w).2
  refine Does.val h (v := .pointer (some (a0.add (n.toNat * sz)))) ?_ dst _ (fun d => ?_)
  · have hb : (0 : Int) ≤ n ∧ n < (len : Int) := ⟨h0, by omega⟩
    simp only [Instr.indexAt, asIntOf, Sem.run_bind, Sem.run_pure, Result.andThen_ok, run_underlying ht, hb, and_self, if_true, h2]
  · refine (show RepC S loc st.box ow w (.slot d 0) (.ptr bk ver _) _ from ⟨_, rfl, hver, fun hv => ?_⟩)
    rw [hloc2 hv, add_none]

/-- of an array -/
theorem does_indexArr (h : HH S loc ow w N st.env vals st.box) {i i' : Nat} {x y : SV} {v u : Value} (hv : RepV S loc st.box ow w i x v) (hu : RepV S loc st.box ow w i' y u) {t e : TypeId} {len : Nat} (ht : P.underlying t = some (.array len e)) {agg : Bool} {sz : Nat} (he : tyInfo P e = some (agg, sz))
    {n : Int} (hy : y.int? = some n) (h0 : 0 ≤ n) (h1 : n < len) (dst : Option Nat) {sem : Sem Next} (hs : sem = do pure (.value (← Instr.indexAt t v u))) {out : Out}
    (ho : fieldAddrV (n.toNat * sz) x = some out) : Does P sem N st vals S loc ow w dst out := by
  subst hs
  obtain ⟨k, rfl⟩ := hu.int hy
  have h2 := (run_tyInfo he w).2
  have hb : (0 : Int) ≤ n ∧ n < (len : Int) := ⟨h0, h1⟩
  have hrun : ∀ a : Addr, (Instr.indexAt t (.pointer (some a)) (.int k n)).run P w = .ok (.pointer (some (a.add (n.toNat * sz)))) w := by
    intro a
    simp only [Instr.indexAt, asIntOf, Sem.run_bind, Sem.run_pure, Result.andThen_ok, run_underlying ht, Instr.sureAddr, hb, and_self, if_true, h2]
  rcases x with (_ | _ | _ | ⟨k, ver, o⟩ | ⟨xs⟩ | _ | _) | _ | _ <;> (try (cases ho; done))
  · cases ho
    obtain ⟨a, rfl, r2, r3⟩ := hv.cinv
    refine Does.val h (v := .pointer (some (a.add (n.toNat * sz)))) (by simp only [Sem.run_bind, hrun, Result.andThen_ok]; rfl) dst _ (fun d => ?_)
    exact ⟨_, rfl, r2, fun e => by rw [r3 e, add_none]⟩
  · simp only [fieldAddrV] at ho
    split at ho
    · cases ho
      obtain ⟨g, o, rfl, hrow⟩ := hv.cinv
      refine Does.val h (v := .pointer (some ⟨g, o + n.toNat * sz, none⟩)) (by simp only [Sem.run_bind, hrun, Result.andThen_ok, add_none]; rfl) dst _ (fun d => ?_)
      exact ⟨g, _, rfl, RowD.drop hrow _⟩
    · cases ho

theorem run_indexStr {t : TypeId} (ht : P.underlying t = some .string) (b : ByteArray) (k : IntKind) (n : Int) (h0 : 0 ≤ n) (h1 : n.toNat < b.size) : (Instr.index t (.string b) (.int k n)).run P w = .ok (.int .u8 (b[n.toNat]'h1).toNat) w := by
  have : b[n.toNat]? = some (b[n.toNat]'h1) := by simp [h1]
  simp only [Instr.index, asIntOf, Sem.run_bind, Sem.run_pure, Result.andThen_ok, run_underlying ht, h0, if_true, this]

theorem RepV.len {i : Nat} {x : SV} {v : Value} (hv : RepV S loc st.box ow w i x v) {n : Nat} (hx : x.len? = some n) : ∃ a c, v = .slice a n c ∧ n ≤ 281474976710656 := by
  unfold SV.len? at hx
  split at hx
  · cases hx
    obtain ⟨a, c, rfl, _, hm, _⟩ := hv.cinv
    exact ⟨a, c, rfl, hm⟩
  · split at hx
    · rename_i xs hxs
      cases hx
      obtain ⟨a, c, rfl, _, hm⟩ := (hv.elems hxs).sl_inv
      exact ⟨a, c, rfl, hm⟩
    · cases hx

theorem does_len (h : HH S loc ow w N st.env vals st.box) {i : Nat} {x : SV} {v : Value} (hv : RepV S loc st.box ow w i x v) {n : Nat} (hx : x.len? = some n) {t e : TypeId} (ht : P.underlying t = some (.slice e)) (dst : Option Nat) {ts : Array TypeId} (hts : ts[0]? = some t) {ty : TypeId} {sem : Sem Next}
    (hs : sem = do pure (.value (← Builtin.len_ ts ty #[v]))) : Does P sem N st vals S loc ow w dst { val := .c (.d (.v (.int .i64 n))) } := by
  subst hs
  obtain ⟨a, c, rfl, _⟩ := hv.len hx
  have hr : (Builtin.len_ ts ty #[.slice a n c]).run P w = .ok (.int .i64 n) w := by simp [Builtin.len_, hts, run_underlying ht, goInt]
  exact does_atom h dst (by simp only [Sem.run_bind, hr, Result.andThen_ok]; rfl) rfl

theorem does_lenStr (h : HH S loc ow w N st.env vals st.box) {i : Nat} {b : ByteArray} {v : Value} (hv : RepV S loc st.box ow w i (.c (.d (.v (.string b)))) v) {t : TypeId} (ht : P.underlying t = some .string) (dst : Option Nat) {ts : Array TypeId} (hts : ts[0]? = some t) {ty : TypeId} {sem : Sem Next}
    (hs : sem = do pure (.value (← Builtin.len_ ts ty #[v]))) : Does P sem N st vals S loc ow w dst { val := .c (.d (.v (.int .i64 b.size))) } := by
  subst hs
  rw [hv.atom]
  have hr : (Builtin.len_ ts ty #[.string b]).run P w = .ok (.int .i64 b.size) w := by simp [Builtin.len_, hts, run_underlying ht, goInt]
  exact does_atom h dst (by simp only [Sem.run_bind, hr, Result.andThen_ok]; rfl) rfl

end
end Go.V

