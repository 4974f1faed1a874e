/- The value machine, part 15: each operation does what its instruction says. -/
import Derived.Test.YtglmbheeplndpaaVQ
set_option linter.all false
set_option linter.unusedSimpArgs false
set_option linter.unusedVariables false
namespace Go.V
open Go

section
variable {P : Program} {S : Stab} {loc : Nat → Nat} {ow : Nat → Option Pl} {w : World} {N : Nat} {st : VSt}

theorem execOp_val {ρ : Operand → Value} {o : Oper} {s : Sem Value} (h : execOp ρ o = (do pure (.value (← s)))) (v : Value) (hs : s.run P w = .ok v w) : (execOp ρ o).run P w = .ok (.value v) w := by
  rw [h]
  simp only [Sem.run_bind, hs, Result.andThen_ok]
  rfl

theorem execOp_val' {ρ : Operand → Value} {o : Oper} {s : Sem Value} (h : execOp ρ o = (do pure (.value (← s)))) {v : Value} {w' : World} (hs : s.run P w = .ok v w') : (execOp ρ o).run P w = .ok (.value v) w' := by
  rw [h]
  simp only [Sem.run_bind, hs, Result.andThen_ok]
  rfl

theorem ofVal_not_osl {v : Value} {e sz : Nat} {xs : List (List D)} (h : ofVal v = some (.c (.osl e sz xs))) : False := by
  unfold ofVal at h
  split at h
  · split at h <;> cases h
  · cases h
  · simp only [Option.some.injEq, SV.c.injEq] at h
    unfold ofCell at h
    split at h <;> cases h

theorem step_move {a : Act} (h : HH S loc ow w N st.env (valsOf a) st.box) {o : Oper} {d : Nat} (hd : o.dst = some d) {x : Operand} (he : execOp a.eval o = pure (.value (a.eval x))) {y : VX} (hx : cx N x = some y) {take : Bool} {out : Out} (hv : vexec (.move y take) st = some out) :
    Does P (execOp a.eval o) N st (valsOf a) S loc ow w o.dst out := by
  rw [hd]
  obtain ⟨hr, hs⟩ := cx_rep h hx
  have hrun : (execOp a.eval o).run P w = .ok (.value (a.eval x)) w := by rw [he]; rfl
  simp only [vexec] at hv
  split at hv
  · rename_i c hc
    cases hv
    cases y with
    | lit y' =>
      refine Does.val h hrun (some d) _ (fun d' => ?_)
      have hlit : ∀ v x, ofVal v = some x → ∀ c, x = .c c → isOsl c = false := by
        intro v x hx c hc
        unfold ofVal at hx
        split at hx
        · split at hx
          · cases hx; cases hc
          · cases hx
        · cases hx
        · cases hx
          cases hc
          unfold ofCell
          split <;> rfl
      have ho : isOsl c = false := by
        cases x with
        | tmp t => simp only [cx] at hx; split at hx <;> cases hx
        | const v =>
          simp only [cx] at hx
          obtain ⟨x0, h0, h1⟩ := Option.map_eq_some_iff.1 hx
          cases h1
          exact hlit v _ h0 c hc
        | func f => cases hx; cases hc; rfl
        | global g => cases hx
      rw [hc] at hr
      exact RepC.place ho hr.cinv
    | slot n =>
      obtain ⟨hn, hval⟩ := hs n rfl
      have hc' : st.env n = .c c := hc
      cases c with
      | osl e sz xs =>
        simp only [takeOf, hc']
        rw [hval] at hrun
        exact does_take h hn hc' hrun
      | _ =>
        simp only [takeOf, hc']
        refine Does.val h hrun (some d) _ (fun d' => ?_)
        rw [hc] at hr
        exact RepC.place (p := .slot (VX.slot n).pl 0) (q := .slot d' 0) rfl hr.cinv
  · cases hv
    exact Does.val h hrun (some d) _ (fun d' => hr.copyAt d')

theorem zeroOf_rep {t : TypeId} {cs : List C} (h : zeroOf P t = some cs) : ∃ i z, P.info? t = some i ∧ i.zero = some z ∧ ListRep S loc st.box ow w cs z.cells := by
  unfold zeroOf at h
  split at h
  · rename_i i hi
    split at h
    · rename_i z hz
      split at h
      · rename_i ha
        cases h
        refine ⟨i, z, hi, hz, by simp, fun m c hc => ?_⟩
        rw [List.getElem?_map] at hc
        obtain ⟨u, hu, rfl⟩ := Option.map_eq_some_iff.1 hc
        have hu' : z.cells[m]? = some u := by simpa using hu
        have h1 : u.oneCell' = true := Array.all_eq_true_iff_forall_mem.1 ha u (Array.mem_of_getElem? hu')
        exact ⟨(ofCell_rep (S := S) (loc := loc) (box := st.box) (ow := ow) (w := w) h1 (.slot 0 0)).2, u, hu', (ofCell_rep h1 _).1⟩
      · cases h
    · cases h
  · cases h

theorem cells_of_alloc {z : Value} {t : TypeId} {i : TypeInfo} (hi : P.info? t = some i) (hz : i.zero = some z) : (Instr.alloc t true (.tuple #[])).run P w = .ok (.pointer (some ⟨w.heap.size, 0, none⟩)) (w.alloc (.cells z.cells t)) := by
  simp [Instr.alloc, zeroValue, typeInfo, hi, hz, newVar, newRow]

theorem box_run {t : TypeId} {v : Value} : (Instr.box t v).run P w = .ok (.pointer (some ⟨w.heap.size, 0, none⟩)) (w.alloc (.cells v.cells t)) := by
  simp [Instr.box, newVar, newRow]

theorem bound_rep {a : Act} (h : HH S loc ow w N st.env (valsOf a) st.box) {x : Option Operand} {y : Option VX} (hc : cxo N x = some y) {b : Option Int} (hb : bound st.env y = some b) : BoundRep b (x.map a.eval) := by
  cases x with
  | none =>
    cases hc
    cases hb
    exact .inl ⟨rfl, rfl⟩
  | some x =>
    simp only [cxo] at hc
    split at hc
    · rename_i y' hy
      cases hc
      simp only [bound] at hb
      split at hb
      · rename_i n hn
        cases hb
        obtain ⟨k, hk⟩ := (cx_rep h hy).1.int hn
        exact .inr ⟨n, k, rfl, by simp [hk]⟩
      · cases hb
    · cases hc

theorem cparts_rep {a : Act} (h : HH S loc ow w N st.env (valsOf a) st.box) (pl : Nat → Option (Nat × Nat)) : ∀ (ps : List (Nat × Operand)) (vps : List (Nat × Nat × VX)), cparts N pl ps = some vps →
    PartsRep S loc st ow w pl (ps.map fun p => (p.1, a.eval p.2)) vps
  | [], vps, hc => by cases hc; trivial
  | (i, x) :: r, vps, hc => by
    simp only [cparts] at hc
    split at hc
    · rename_i off n y ys h1 h2 h3
      cases hc
      exact ⟨h1, ⟨_, (cx_rep h h2).1⟩, cparts_rep h pl r ys h3⟩
    · cases hc

theorem cpartsS_rep {a : Act} (h : HH S loc ow w N st.env (valsOf a) st.box) : ∀ (ps : List (Nat × Operand)) (vps : List (Nat × VX)), cpartsS N ps = some vps →
    PartsRepS S loc st ow w (ps.map fun p => (p.1, a.eval p.2)) vps
  | [], vps, hc => by cases hc; trivial
  | (i, x) :: r, vps, hc => by
    simp only [cpartsS] at hc
    split at hc
    · rename_i y ys h2 h3
      cases hc
      exact ⟨rfl, ⟨_, (cx_rep h h2).1⟩, cpartsS_rep h r ys h3⟩
    · cases hc

theorem RepC.kc {p : Pl} {c : C} {v : Value} {k : KC} (h : RepC S loc st.box ow w p c v) (hk : c.kc = some k) : RepK S loc st.box w k v := by
  cases c with
  | d x => cases hk; exact h
  | nilsl => cases hk; rw [show v = .slice none 0 0 from h]; exact RepD.nil _ _
  | osl e sz xs => cases hk; exact h.1
  | ptr k ver off => cases hk; exact h
  | _ => cases hk

theorem kcs_rep {a : Act} (h : HH S loc ow w N st.env (valsOf a) st.box) : ∀ (l : List Operand) (xs : List VX) (ks : List KC), cxs N l = some xs → kcsOf st.env xs = some ks →
    ks.length = l.length ∧ ∀ (j : Nat) k, ks[j]? = some k → ∃ u, (l.map a.eval)[j]? = some u ∧ RepK S loc st.box w k u
  | [], xs, ks, hx, hk => by
    cases hx
    cases hk
    exact ⟨rfl, fun j k hj => by simp at hj⟩
  | o :: l, xs, ks, hx, hk => by
    simp only [cxs] at hx
    split at hx
    · rename_i y ys h1 h2
      cases hx
      simp only [kcsOf] at hk
      split at hk
      · rename_i c hc
        split at hk
        · rename_i k ks' h3 h4
          cases hk
          obtain ⟨l1, l2⟩ := kcs_rep h l ys ks' h2 h4
          refine ⟨by simp [l1], fun j k' hj => ?_⟩
          cases j with
          | zero =>
            cases hj
            have hr := (cx_rep h h1).1
            rw [hc] at hr
            exact ⟨_, rfl, hr.cinv.kc h3⟩
          | succ j => exact l2 j k' (by simpa using hj)
        · cases hk
      · cases hk
    · cases hx

theorem map_parts (a : Act) (parts : Array (Nat × Operand)) : (parts.map fun (i, x) => (i, a.eval x)).toList = parts.toList.map fun p => (p.1, a.eval p.2) := by simp

theorem step_sound {a : Act} (h : HH S loc ow w N st.env (valsOf a) st.box) {o : Oper} {take : Bool} {op : VOp} (hc : cop P N take o = some op) {out : Out} (hv : vexec op st = some out) :
    Does P (execOp a.eval o) N st (valsOf a) S loc ow w o.dst out := by
  unfold cop at hc
  split at hc
  · -- move
    rename_i x d hop hd
    obtain ⟨y, hx, rfl⟩ := Option.map_eq_some_iff.1 hc
    exact step_move h hd (exec_move hop) hx hv
  · -- assign
    rename_i x d hop hd
    obtain ⟨y, hx, rfl⟩ := Option.map_eq_some_iff.1 hc
    exact step_move h hd (exec_assign hop) hx hv
  · -- pick
    rename_i c x y d hop hd
    split at hc
    · rename_i c' x' y' h1 h2 h3
      cases hc
      simp only [vexec] at hv
      split at hv
      · rename_i t ht
        cases hv
        exact does_pick h (cx_rep h h1).1 (cx_rep h h2).1 (cx_rep h h3).1 ht o.dst (exec_pick hop)
      · cases hv
    · cases hc
  · -- box
    rename_i elem x d hop hd
    split at hc
    · rename_i agg n x' h1 h2
      cases hc
      simp only [vexec] at hv
      split at hv
      · rename_i ys hys
        split at hv
        · cases hv
          rw [hd]
          obtain ⟨c1, c2⟩ := (cx_rep h h2).1.cellsRep hys
          refine does_new h (elem := elem) (cells := (a.eval x).cells) ⟨by simp [c1], fun m c hm => ?_⟩ (execOp_val' (ρ := a.eval) (o := o) (s := Instr.box elem (a.eval x)) (exec_box hop) box_run)
          rw [List.getElem?_map] at hm
          obtain ⟨c0, h0, rfl⟩ := Option.map_eq_some_iff.1 hm
          obtain ⟨u, hu, hr⟩ := c2 m c0 h0
          exact ⟨isOsl_copy c0, u, hu, hr.copy _⟩
        · cases hv
      · cases hv
    · cases hc
  · -- alloc
    rename_i elem d hop hd
    obtain ⟨z, hz, rfl⟩ := Option.map_eq_some_iff.1 hc
    simp only [vexec] at hv
    cases hv
    rw [hd]
    obtain ⟨i, zv, hi, hzv, hl⟩ := zeroOf_rep (S := S) (loc := loc) (ow := ow) (w := w) (st := st) hz
    exact does_new h (elem := elem) hl (execOp_val' (ρ := a.eval) (o := o) (s := Instr.alloc elem true (.tuple #[])) (exec_alloc hop) (cells_of_alloc hi hzv))
  · -- load
    rename_i t x d hop hd
    split at hc
    · rename_i agg n x' h1 h2
      split at hc
      · cases hc
      · rename_i hn
        cases hc
        have hr := (cx_rep h h2).1
        simp only [vexec] at hv
        split at hv
        · rename_i xs hp
          split at hv
          · obtain ⟨y, hy, rfl⟩ := Option.map_eq_some_iff.1 hv
            exact does_load_row h hr hp h1 ‹_› hy o.dst (exec_load hop)
          · cases hv
        · rename_i k off hp
          split at hv
          · rename_i cs hk
            split at hv
            · split at hv
              · rename_i hta
                split at hv
                · rename_i c hcs
                  split at hv
                  · rename_i hn1
                    cases hv
                    obtain ⟨rfl, rfl⟩ := hn1
                    rw [hd]
                    exact does_loadTake h hr hp hk h1 hcs (exec_load hop)
                  · cases hv
                · cases hv
              · obtain ⟨y, hy, rfl⟩ := Option.map_eq_some_iff.1 hv
                exact does_load_box h hr hp hk h1 ‹_› hy o.dst (exec_load hop)
            · cases hv
          · cases hv
        · cases hv
    · cases hc
  · -- store
    rename_i t x y hop hd
    split at hc
    · rename_i agg n x' y' h1 h2 h3
      cases hc
      have hr := (cx_rep h h2).1
      have hr2 := cx_rep h h3
      simp only [vexec] at hv
      split at hv
      · rename_i k off hp
        split at hv
        · rename_i cs hk
          split at hv
          · rename_i ys hys
            split at hv
            · rename_i hle
              cases hv
              rw [hd]
              refine does_store h hr hp hk h1 hr2.1 hys hle.1 hle.2 ?_ (exec_store hop)
              cases y' with
              | lit s =>
                left
                refine ⟨rfl, fun e sz xs he => ?_⟩
                cases y with
                | tmp t => simp only [cx] at h3; split at h3 <;> cases h3
                | const v =>
                  simp only [cx] at h3
                  obtain ⟨x0, h0, h4⟩ := Option.map_eq_some_iff.1 h3
                  cases h4
                  simp only [VX.get] at he
                  subst he
                  exact ofVal_not_osl h0
                | func f => cases h3; cases he
                | global g => cases h3
              | slot n' =>
                obtain ⟨q1, q2⟩ := hr2.2 n' rfl
                by_cases hosl : ∃ e sz xs, st.env n' = .c (.osl e sz xs)
                · right
                  obtain ⟨e, sz, xs, he⟩ := hosl
                  exact ⟨e, sz, xs, q1, he, rfl, q2, by simp [takeOf, he, VX.pl]⟩
                · left
                  refine ⟨?_, fun e sz xs he => hosl ⟨e, sz, xs, he⟩⟩
                  simp only [takeOf]
                  split
                  · rename_i e sz xs he
                    exact absurd ⟨e, sz, xs, he⟩ hosl
                  · rfl
            · cases hv
          · cases hv
        · cases hv
      · cases hv
    · cases hc
  · -- nilCheck
    rename_i x d hop hd
    obtain ⟨y, hx, rfl⟩ := Option.map_eq_some_iff.1 hc
    have hr := (cx_rep h hx).1
    simp only [vexec] at hv
    split at hv
    · rename_i k ver o' hp
      cases hv
      rw [hp] at hr
      exact does_nilCheck h hr (.inl ⟨k, ver, o', rfl⟩) o.dst (fun p hp' => by unfold execOp; rw [hop]; simp only [hp'])
    · rename_i xs hp
      cases hv
      rw [hp] at hr
      exact does_nilCheck h hr (.inr ⟨xs, rfl⟩) o.dst (fun p hp' => by unfold execOp; rw [hop]; simp only [hp'])
    · cases hv
  · -- fieldAddr
    rename_i s x f d hop hd
    split at hc
    · rename_i off x' h1 h2
      cases hc
      simp only [vexec] at hv
      exact does_fieldAddr h (cx_rep h h2).1 h1 o.dst (exec_fieldAddr hop) hv
    · cases hc
  · -- field
    rename_i s x f d hop hd
    split at hc
    · rename_i agg off n x' h1 h2
      cases hc
      simp only [vexec] at hv
      split at hv
      · rename_i xs hxs
        split at hv
        · obtain ⟨y, hy, rfl⟩ := Option.map_eq_some_iff.1 hv
          have hr := (cx_rep h h2).1
          rw [hxs] at hr
          exact does_field h hr h1 ‹_› hy o.dst (exec_field hop)
        · cases hv
      · cases hv
    · cases hc
  · -- unOp
    rename_i op t x d hop hd
    obtain ⟨y, hx, rfl⟩ := Option.map_eq_some_iff.1 hc
    simp only [vexec] at hv
    obtain ⟨v, hv1, rfl⟩ := Option.map_eq_some_iff.1 hv
    obtain ⟨r1, r2⟩ := run_vun (P := P) op _ v hv1 _ (cx_rep h hx).1
    exact does_atom h o.dst (execOp_val (ρ := a.eval) (o := o) (s := Op.unary op (a.eval x)) (exec_unOp hop) v r1) r2
  · -- binOp
    rename_i op t x y t' d hop hd
    split at hc
    · rename_i x' y' h1 h2
      have hrun := exec_binOp (ρ := a.eval) hop
      have plain : ∀ {b : Bool} {r : Value}, vbin b op (x'.get st.env) (y'.get st.env) = some r → (b = true → P.underlying t = some .bool) → Does P (execOp a.eval o) N st (valsOf a) S loc ow w o.dst { val := .c (.d (.v r)) } := by
        intro b r hb ht
        obtain ⟨r1, r2⟩ := run_vbin (P := P) b op _ _ r hb t x y _ _ (cx_rep h h1).1 (cx_rep h h2).1 ht
        exact does_atom h o.dst (execOp_val hrun r r1) r2
      split at hc
      · rename_i ht
        cases hc
        simp only [vexec] at hv
        obtain ⟨r, hv1, rfl⟩ := Option.map_eq_some_iff.1 hv
        exact plain hv1 (fun _ => ht)
      · cases hc
        simp only [vexec] at hv
        obtain ⟨r, hv1, rfl⟩ := Option.map_eq_some_iff.1 hv
        exact plain hv1 (fun e => by cases e)
      · cases hc
        simp only [vexec] at hv
        obtain ⟨r, hv1, rfl⟩ := Option.map_eq_some_iff.1 hv
        exact plain hv1 (fun e => by cases e)
      · rename_i elem ht
        have hptr : P.underlying t = some (.pointer (P.pointee t)) := by simp [Program.pointee, ht]
        have nil : ∀ (neg : Bool), op = (if neg then .neq else .eql) → y = .const (.pointer none) → vexec (.isNil neg x') st = some out → Does P (execOp a.eval o) N st (valsOf a) S loc ow w o.dst out := by
          intro neg hop2 hy hv
          subst hy
          have hr := (cx_rep h h1).1
          have key : ∀ p : Option Addr, a.eval x = .pointer p → (execOp a.eval o).run P w = .ok (.value (.bool (if neg then !p.isNone else p.isNone))) w := by
            intro p hp
            refine execOp_val hrun _ ?_
            have e : a.eval (.const (.pointer none)) = .pointer none := rfl
            rw [hp, e]
            have hg : (eqGuard op t x (.const (.pointer none)) (.pointer p) (.pointer none)).run P w = .ok () w := by unfold eqGuard; split <;> rfl
            simp only [Sem.run_bind, hg, Result.andThen_ok]
            cases neg with
            | true =>
              subst hop2
              exact run_neq_pointer_nil w t p hptr
            | false =>
              subst hop2
              exact run_eql_pointer_nil w t p hptr
          simp only [vexec] at hv
          split at hv
          · rename_i hx
            cases hv
            rw [hx] at hr
            have := key none hr.atom
            refine does_atom h o.dst (v := .bool (!neg)) (by rw [this]; cases neg <;> rfl) rfl
          · rename_i k ver o' hp
            cases hv
            rw [hp] at hr
            obtain ⟨q, hq, _⟩ := hr.cinv
            have := key (some q) hq
            exact does_atom h o.dst (v := .bool neg) (by rw [this]; cases neg <;> rfl) rfl
          · rename_i xs hp
            cases hv
            rw [hp] at hr
            obtain ⟨g, o', hq, _⟩ := hr.cinv
            have := key (some _) hq
            exact does_atom h o.dst (v := .bool neg) (by rw [this]; cases neg <;> rfl) rfl
          · cases hv
        split at hc
        · cases hc
          exact nil false rfl rfl hv
        · cases hc
          exact nil true rfl rfl hv
        · cases hc
      · rename_i fs ht
        have eqs : ∀ (neg : Bool) (ks : List Nat), op = (if neg then .neq else .eql) → layT P 8 t = some ks → P.eqGuardType P.depth t = false → vexec (.eqAgg neg ks x' y') st = some out → Does P (execOp a.eval o) N st (valsOf a) S loc ow w o.dst out := by
          intro neg ks hop2 hl hg hv
          simp only [vexec] at hv
          split at hv
          · rename_i xs ys hxs hys
            split at hv
            · rename_i hk
              obtain ⟨b, hb, rfl⟩ := Option.map_eq_some_iff.1 hv
              have r1 := (cx_rep h h1).1
              have r2 := (cx_rep h h2).1
              rw [hxs] at r1
              rw [hys] at r2
              obtain ⟨us, e1, c1⟩ := RepV.aggCells r1
              obtain ⟨vs, e2, c2⟩ := RepV.aggCells r2
              have := run_eqAgg (w := w) hl hg hk hb c1 c2 ⟨fs, ht⟩ neg x y
              refine does_atom h o.dst (execOp_val hrun (.bool (if neg then !b else b)) ?_) rfl
              rw [hop2, e1, e2]
              exact this
            · cases hv
          · cases hv
        split at hc
        · rename_i ks hl
          split at hc
          · cases hc
          · rename_i hg
            cases hc
            exact eqs false ks rfl hl (by simpa using hg) hv
        · rename_i ks hl
          split at hc
          · cases hc
          · rename_i hg
            cases hc
            exact eqs true ks rfl hl (by simpa using hg) hv
        · cases hc
      · cases hc
    · cases hc
  · -- convert
    rename_i s d x d' hop hd
    split at hc
    · rename_i x' k0 k h1 hs0 hd0
      cases hc
      simp only [vexec] at hv
      obtain ⟨r, hv1, rfl⟩ := Option.map_eq_some_iff.1 hv
      obtain ⟨r1, r2⟩ := run_vconv (P := P) k _ r hv1 _ (cx_rep h h1).1 s d _ hs0 hd0
      exact does_atom h o.dst (execOp_val (exec_convert hop) r r1) r2
    · rename_i x' e h1 hs0 hd0
      split at hc
      · rename_i he
        cases hc
        simp only [vexec] at hv
        split at hv
        · rename_i xs hxs
          obtain ⟨l, hl, rfl⟩ := Option.map_eq_some_iff.1 hv
          exact does_toStr h (cx_rep h h1).1 hxs hl hs0 he hd0 o.dst (exec_convert hop)
        · cases hv
      · cases hc
    · cases hc
  · -- indexAddr
    rename_i t x y d hop hd
    split at hc
    · rename_i x' y' e h1 h2 ht
      split at hc
      · rename_i agg sz he
        cases hc
        simp only [vexec] at hv
        split at hv
        · rename_i k ver off len n hxs hn
          split at hv
          · rename_i hb
            cases hv
            have hr := (cx_rep h h1).1
            rw [hxs] at hr
            exact does_indexM h hr (cx_rep h h2).1 ht he hn hb.1 hb.2 o.dst (exec_indexAddr hop)
          · cases hv
        · rename_i n hn hnm
          split at hv
          · rename_i xs hxs
            split at hv
            · rename_i hb
              split at hv
              · rename_i hsz
                cases hv
                exact does_indexAddr h (cx_rep h h1).1 (cx_rep h h2).1 ht he hxs hn hb.1 hb.2 hsz o.dst (exec_indexAddr hop)
              · cases hv
            · cases hv
          · cases hv
        · cases hv
      · cases hc
    · rename_i x' y' n e h1 h2 ht
      split at hc
      · rename_i agg sz he
        cases hc
        simp only [vexec] at hv
        split at hv
        · rename_i m hm
          split at hv
          · rename_i hb
            exact does_indexArr h (cx_rep h h1).1 (cx_rep h h2).1 ht he hm hb.1 hb.2 o.dst (exec_indexAddr hop) hv
          · cases hv
        · cases hv
      · cases hc
    · cases hc
  · -- index of a text
    rename_i t x y d hop hd
    split at hc
    · rename_i x' y' h1 h2 ht
      cases hc
      simp only [vexec] at hv
      split at hv
      · rename_i s n hs hn
        split at hv
        · rename_i hb
          cases hv
          have hr := (cx_rep h h1).1
          rw [hs] at hr
          obtain ⟨k, hk⟩ := (cx_rep h h2).1.int hn
          refine does_atom h o.dst (execOp_val (exec_index hop) _ ?_) rfl
          rw [hr.atom, hk]
          exact run_indexStr ht s k n hb.1 hb.2
        · cases hv
      · cases hv
    · cases hc
  · -- slice
    rename_i t x lo hi mx d hop hd
    split at hc
    · rename_i x' lo' hi' mx' h1 h2 h3 h4
      split at hc
      · rename_i e ht
        split at hc
        · rename_i agg sz he
          split at hc
          · cases hc
          · rename_i hmh
            split at hc
            · rename_i hcut
              cases hc
              simp only [vexec] at hv
              split at hv
              · rename_i xs hxs
                cases hv
                unfold emptyCut at hcut
                split at hcut
                · exact does_empty h (cx_rep h h1).1 hxs ht he rfl rfl rfl o.dst (exec_slice hop)
                · cases hcut
              · cases hv
            · cases hc
              simp only [vexec] at hv
              have hr := (cx_rep h h1).1
              have hbm : ∀ {hb m : Option Int}, bound st.env hi' = some hb → bound st.env mx' = some m → m ≠ none → hb ≠ none := by
                intro hb m hhb hm
                rintro hmn rfl
                apply hmh
                have e1 : mx.isSome = true := by
                  cases mx with
                  | none => cases h4; cases hm; exact absurd rfl hmn
                  | some _ => rfl
                have e2 : hi = none := by
                  cases hi with
                  | none => rfl
                  | some x0 =>
                    simp only [cxo] at h3
                    split at h3
                    · cases h3
                      simp only [bound] at hhb
                      split at hhb <;> cases hhb
                    · cases h3
                simp [e1, e2]
              split at hv
              · rename_i k ver off len l hb m hxs hl hhb hm
                obtain ⟨x2, hx2, rfl⟩ := Option.map_eq_some_iff.1 hv
                rw [hxs] at hr
                exact does_sliceM h hr ht he (bound_rep h h2 hl) (bound_rep h h3 hhb) (bound_rep h h4 hm) (hbm hhb hm) hx2 o.dst (exec_slice hop)
              · rename_i l hb m hl hhb hm hnm
                split at hv
                · rename_i xs hxs
                  split at hv
                  · rename_i hcond
                    cases hv
                    exact does_slice h hr hxs ht he (bound_rep h h2 hl) (bound_rep h h3 hhb) (bound_rep h h4 hm) (hbm hhb hm) hcond.1 hcond.2.1 hcond.2.2.1 hcond.2.2.2.1 hcond.2.2.2.2 o.dst (exec_slice hop)
                  · cases hv
                · cases hv
              · cases hv
        · cases hc
      · rename_i n e ht
        split at hc
        · rename_i agg sz he
          split at hc
          · cases hc
          · rename_i hmx
            cases hc
            simp only [Bool.or_eq_true, decide_eq_true_eq, not_or] at hmx
            simp only [vexec] at hv
            split at hv
            · rename_i k ver off l hb hxs hl hhb
              obtain ⟨x2, hx2, rfl⟩ := Option.map_eq_some_iff.1 hv
              have hr := (cx_rep h h1).1
              rw [hxs] at hr
              have : mx = none := by cases mx <;> simp_all
              subst this
              exact does_sliceArr h hr ht he (by omega) (bound_rep h h2 hl) (bound_rep h h3 hhb) hx2 o.dst (exec_slice hop)
            · cases hv
        · cases hc
      · rename_i ht
        split at hc
        · cases hc
        · rename_i hmx
          cases hc
          simp only [vexec] at hv
          have hr := (cx_rep h h1).1
          split at hv
          · rename_i s l hb hs hl hhb
            split at hv
            · rename_i hcond
              cases hv
              rw [hs] at hr
              have : mx = none := by cases mx <;> simp_all
              subst this
              exact does_sliceStr h hr ht (bound_rep h h2 hl) (bound_rep h h3 hhb) hcond.1 hcond.2.1 hcond.2.2 o.dst (exec_slice hop)
            · cases hv
          · cases hv
      · cases hc
    · cases hc
  · -- build
    rename_i t parts d hop hd
    split at hc
    · rename_i fields zero ht hz
      split at hc
      · rename_i places hpl
        obtain ⟨ps, hps, rfl⟩ := Option.map_eq_some_iff.1 hc
        simp only [vexec] at hv
        obtain ⟨cs, hcs, rfl⟩ := Option.map_eq_some_iff.1 hv
        obtain ⟨i, z, hi, hzv, hl⟩ := zeroOf_rep (S := S) (loc := loc) (ow := ow) (w := w) (st := st) hz
        refine does_build h (z := z.cells) (pl := fun i => places.toArray[i]?) (fun cells hf => ?_) hl (by rw [map_parts]; exact cparts_rep h _ _ _ hps) hcs o.dst (exec_build hop)
        simp only [Program.built, hi, ht, hzv]
        rw [show fields.toList.mapM (fun f => (P.info? f.type).map fun i => (f.offset, i.size)) = some places from hpl]
        exact hf
      · cases hc
    · rename_i n e zero ht hz
      split at hc
      · rename_i ie hie
        obtain ⟨ps, hps, rfl⟩ := Option.map_eq_some_iff.1 hc
        simp only [vexec] at hv
        obtain ⟨cs, hcs, rfl⟩ := Option.map_eq_some_iff.1 hv
        obtain ⟨i, z, hi, hzv, hl⟩ := zeroOf_rep (S := S) (loc := loc) (ow := ow) (w := w) (st := st) hz
        refine does_build h (z := z.cells) (pl := fun i => some (i * ie.size, ie.size)) (fun cells hf => ?_) hl (by rw [map_parts]; exact cparts_rep h _ _ _ hps) hcs o.dst (exec_build hop)
        simp only [Program.built, hi, ht, hzv, hie]
        exact hf
      · cases hc
    · cases hc
  · -- buildSlice
    rename_i t len parts d hop hd
    split at hc
    · rename_i e ht
      split at hc
      · rename_i sz bytes z hi
        split at hc
        · rename_i hcond
          obtain ⟨hz1, hz2, hz3, hz4⟩ := hcond
          obtain ⟨ps, hps, rfl⟩ := Option.map_eq_some_iff.1 hc
          simp only [vexec] at hv
          obtain ⟨es, hes, rfl⟩ := Option.map_eq_some_iff.1 hv
          rw [hd]
          refine does_buildSlice h ht hi hz1 ⟨by simp, fun m x hx => ?_⟩ (by rw [map_parts]; exact cpartsS_rep h _ _ hps) (by simpa using hz3) (by omega) hes d (exec_buildSlice hop)
          rw [List.getElem?_map] at hx
          obtain ⟨u, hu, rfl⟩ := Option.map_eq_some_iff.1 hx
          have hu' : z.cells[m]? = some u := by simpa using hu
          have h1 : u.oneCell' = true := Array.all_eq_true_iff_forall_mem.1 hz2 u (Array.mem_of_getElem? hu')
          refine ⟨u, hu', ?_⟩
          unfold ofCellD
          split
          · exact RepD.nil none 0
          · exact RepD.v u h1
        · cases hc
      · cases hc
    · cases hc
  · -- extract
    rename_i x i d hop hd
    obtain ⟨y, hx, rfl⟩ := Option.map_eq_some_iff.1 hc
    simp only [vexec] at hv
    have hr := cx_rep h hx
    split at hv
    · rename_i xs hxs
      split at hv
      · rename_i v hvi
        have htup := hr.1
        rw [hxs] at htup
        obtain ⟨vs, hvs, hsz, hall⟩ := (show ∃ vs : Array Value, a.eval x = .tuple vs ∧ vs.size = xs.length ∧ ∀ (m : Nat) (x : SV), xs[m]? = some x → ∃ u, vs[m]? = some u ∧ RepV1 S loc st.box ow w y.pl m x u from htup)
        have hrun : ∀ u, vs[i]? = some u → (execOp a.eval o).run P w = .ok (.value u) w := by
          intro u hu
          refine execOp_val (exec_extract hop) u ?_
          rw [hvs]
          simp only [Instr.extract, hu]
          rfl
        obtain ⟨u, hu, hru⟩ := hall i v hvi
        split at hv
        · cases hv
          refine Does.val h (hrun u hu) o.dst v.copy (fun d' => ?_)
          cases v with
          | c c => exact RepC.copy (.slot d' 0) hru
          | agg zs => exact RepV.copyAt (RepV.of1 hru (fun _ _ _ e => by cases e) d') d'
          | tup zs => exact RepV.copyAt (RepV.of1 hru (fun _ _ _ e => by cases e) d') d'
        cases hv
        have plain : (∀ e sz zs, v ≠ .c (.osl e sz zs)) → Does P (execOp a.eval o) N st (valsOf a) S loc ow w o.dst { val := v } := fun hno => Does.val h (hrun u hu) o.dst v (fun d' => RepV.of1 hru hno d')
        split
        · rename_i n e sz ys
          rw [hd]
          obtain ⟨hn1, hval⟩ := hr.2 n rfl
          refine does_takeTup h hn1 hxs hvi (fun vs' u' hvs' hu' => ?_)
          rw [hval, hvs'] at hvs
          cases hvs
          exact hrun u' hu'
        · rename_i hno
          refine plain (fun e sz zs hv0 => ?_)
          subst hv0
          cases y with
          | slot n => exact hno n e sz zs rfl rfl
          | lit x0 =>
            cases x with
            | tmp t => simp only [cx] at hx; split at hx <;> cases hx
            | const c =>
              simp only [cx] at hx
              obtain ⟨x1, h1, h2⟩ := Option.map_eq_some_iff.1 hx
              cases h2
              simp only [VX.get] at hxs
              subst hxs
              unfold ofVal at h1
              split at h1
              · split at h1 <;> cases h1
              · cases h1
              · cases h1
            | func f => cases hx; cases hxs
            | global g => cases hx
      · cases hv
    · cases hv
  · -- a closure
    rename_i f first captured d hop hd
    split at hc
    · rename_i hfirst
      obtain ⟨xs, hxs, rfl⟩ := Option.map_eq_some_iff.1 hc
      simp only [vexec] at hv
      obtain ⟨ks, hks, rfl⟩ := Option.map_eq_some_iff.1 hv
      have e0 : first = #[] := Array.eq_empty_of_size_eq_zero hfirst
      subst e0
      have hrun : (Instr.makeFunc (.func f) ((#[] : Array Operand).map a.eval) (captured.map a.eval)).run P w = .ok (.func (.func f) #[] (captured.map a.eval)) w := by simp [Instr.makeFunc]
      refine Does.val h (execOp_val (exec_makeFunc hop) _ hrun) o.dst _ (fun d' => ?_)
      obtain ⟨l1, l2⟩ := kcs_rep h captured.toList xs ks hxs hks
      exact (show RepC S loc st.box ow w (.slot d' 0) (.fn f ks) _ from ⟨_, rfl, by simp [l1], fun j k hk => by
        obtain ⟨u, hu, hr⟩ := l2 j k hk
        exact ⟨u, by simpa using hu, hr⟩⟩)
    · cases hc
  · -- clear
    rename_i c hop hd
    split at hc
    · rename_i hcal
      have hex := exec_builtin (ρ := a.eval) hop hcal
      split at hc
      · rename_i x t hargs hts
        have hargs' : c.args = #[x] := by rw [← Array.toArray_toList (xs := c.args), hargs]
        rw [hargs'] at hex
        split at hc
        · rename_i y e hx ht
          split at hc
          · rename_i i zc hi hz
            split at hc
            · rename_i hsz
              cases hc
              simp only [vexec] at hv
              split at hv
              · rename_i k ver off len hxs
                split at hv
                · rename_i hver
                  split at hv
                  · rename_i cs hcs
                    split at hv
                    · rename_i hle
                      cases hv
                      rw [hd]
                      have hr := (cx_rep h hx).1
                      rw [hxs] at hr
                      obtain ⟨ad, cp, hev, _, _, _, hadr⟩ := hr.cinv
                      obtain ⟨i2, z, hi2, hz2, hlz⟩ := zeroOf_rep (S := S) (loc := loc) (ow := ow) (w := w) (st := st) hz
                      have hex2 : execOp a.eval o = (do pure (.value (← Builtin.clear_ c.argTypes o.type #[a.eval x]))) := hex.trans (by simp only [List.map_toArray, List.map_cons, List.map_nil]; rfl)
                      have hzl : (List.replicate len z.cells.toList).flatten.length = (List.replicate len zc).flatten.length := by simp [hlz.1]
                      refine does_fill h hcs (ys := (List.replicate len zc).flatten) (us := (List.replicate len z.cells.toList).flatten) hzl (fun m c0 hc0 => ?_) hle (fun ty vs hrow hvs => ?_)
                      · by_cases hz0 : zc.length = 0
                        · have : zc = [] := List.eq_nil_of_length_eq_zero hz0
                          subst this
                          simp at hc0
                        · have hlt := (List.getElem?_eq_some_iff.1 hc0).1
                          rw [length_flatten_const zc.length _ (fun x hx => by rw [List.eq_of_mem_replicate hx]), List.length_replicate] at hlt
                          rw [flatten_replicate_get zc.length zc rfl len m hlt] at hc0
                          obtain ⟨h1, u, hu, hru⟩ := hlz.2 _ c0 hc0
                          refine ⟨h1, u, ?_, hru⟩
                          rw [flatten_replicate_get zc.length z.cells.toList (by simp [hlz.1]) len m hlt]
                          simpa using hu
                      · by_cases hlen : len = 0
                        · subst hlen
                          refine ⟨.tuple #[], ?_⟩
                          have hset : w.setRow (loc k) (vs.toList.take off ++ ([] : List Value) ++ vs.toList.drop (off + 0)).toArray = w := by
                            have e0 : (vs.toList.take off ++ ([] : List Value) ++ vs.toList.drop (off + 0)).toArray = vs := by simp
                            rw [e0]
                            exact setRow_self w (loc k) vs ty (0, 0) hrow
                          simp only [List.replicate_zero, List.flatten_nil, List.length_nil]
                          rw [hset, hex2]
                          have hr0 : (Builtin.clear_ c.argTypes o.type #[a.eval x]).run P w = .ok (.tuple #[]) w := by
                            rw [hev]
                            cases ad <;> simp [Builtin.clear_, hts, run_underlying ht]
                          simp only [Sem.run_bind, hr0, Result.andThen_ok]
                          rfl
                        · obtain ⟨b, rfl, hb⟩ := hadr (by omega)
                          rw [hb hver] at hev
                          have hone : ∀ u ∈ (List.replicate len z.cells.toList).flatten, u.oneCell' = true := by
                            intro u hu
                            obtain ⟨l, hl, hul⟩ := List.mem_flatten.1 hu
                            rw [List.eq_of_mem_replicate hl] at hul
                            obtain ⟨j, hj, rfl⟩ := List.getElem_of_mem hul
                            have hj' : j < zc.length := by rw [← hlz.1]; simpa using hj
                            obtain ⟨_, u', hu', hru'⟩ := hlz.2 j _ (List.getElem?_eq_getElem hj')
                            have : u' = z.cells.toList[j] := by
                              have : z.cells[j]? = some z.cells.toList[j] := by simp [show j < z.cells.size by simpa using hj]
                              rw [this] at hu'
                              exact (Option.some.inj hu').symm
                            rw [← this]
                            exact hru'.oneCell
                          have hst := run_storeCells_at P (loc k) off ty (List.replicate len z.cells.toList).flatten 0 vs w hrow (by rw [hzl]; omega) hone
                          simp only [Nat.add_zero] at hst
                          refine ⟨.tuple #[], ?_⟩
                          rw [hex2]
                          have hzv : (zeroValue e).run P w = .ok z w := by simp [zeroValue, typeInfo, hi2, hz2]
                          have hzc : (Builtin.zeroCells z.cells len).toList = (List.replicate len z.cells.toList).flatten := by
                            have hsz0 : (Builtin.zeroCells z.cells len).toList.length = len * z.cells.size := by rw [Array.length_toList, size_zeroCells]
                            have hfl0 : (List.replicate len z.cells.toList).flatten.length = len * z.cells.size := by simp
                            apply List.ext_getElem?
                            intro m
                            by_cases hm : m < len * z.cells.size
                            · rw [flatten_replicate_get z.cells.size z.cells.toList (by simp) len m hm]
                              have hpos : 0 < z.cells.size := Nat.pos_of_ne_zero (by rintro h0; rw [h0] at hm; simp at hm)
                              have hlt := Nat.mod_lt m hpos
                              simp [Builtin.zeroCells, hm, hlt]
                            · rw [List.getElem?_eq_none (by omega), List.getElem?_eq_none (by omega)]
                          have hr0 : (Builtin.clear_ c.argTypes o.type #[a.eval x]).run P w = .ok (.tuple #[]) (w.setRow (loc k) (vs.toList.take off ++ (List.replicate len z.cells.toList).flatten ++ vs.toList.drop (off + (List.replicate len z.cells.toList).flatten.length)).toArray) := by
                            rw [hev]
                            obtain ⟨n, rfl⟩ := Nat.exists_eq_succ_of_ne_zero hlen
                            simp only [Builtin.clear_, hts, Option.bind_eq_bind]
                            simp [run_underlying ht, hzv, hzc, hst]
                          simp only [Sem.run_bind, hr0, Result.andThen_ok]
                          rfl
                    · cases hv
                  · cases hv
                · cases hv
              · cases hv
            · cases hc
          · cases hc
        · cases hc
      · cases hc
    · cases hc
  · -- call
    rename_i c d hop hd
    split at hc
    · -- len
      rename_i hcal
      have hex := exec_builtin (ρ := a.eval) hop hcal
      split at hc
      · rename_i x t hargs hts
        have hargs' : c.args = #[x] := by rw [← Array.toArray_toList (xs := c.args), hargs]
        rw [hargs'] at hex
        split at hc
        · rename_i e ht
          obtain ⟨y, hx, rfl⟩ := Option.map_eq_some_iff.1 hc
          simp only [vexec] at hv
          split at hv
          · rename_i n hxs
            cases hv
            exact does_len h (cx_rep h hx).1 hxs ht o.dst hts (hex.trans (by simp only [List.map_toArray, List.map_cons, List.map_nil]; rfl))
          · cases hv
        · rename_i ht
          obtain ⟨y, hx, rfl⟩ := Option.map_eq_some_iff.1 hc
          simp only [vexec] at hv
          split at hv
          · rename_i s hs
            cases hv
            have hr := (cx_rep h hx).1
            rw [hs] at hr
            exact does_lenStr h hr ht o.dst hts (hex.trans (by simp only [List.map_toArray, List.map_cons, List.map_nil]; rfl))
          · cases hv
        · cases hc
      · cases hc
    · -- append
      rename_i hcal
      have hex := exec_builtin (ρ := a.eval) hop hcal
      split at hc
      · rename_i x y t t2 hargs hts
        have hargs' : c.args = #[x, y] := by rw [← Array.toArray_toList (xs := c.args), hargs]
        have hts' : c.argTypes = #[t, t2] := by rw [← Array.toArray_toList (xs := c.argTypes), hts]
        rw [hargs', hts'] at hex
        split at hc
        · rename_i x' y' e h1 h2 ht
          split at hc
          · rename_i sz bytes z hi
            split at hc
            · rename_i hcond
              rw [hd]
              have hex2 : execOp a.eval o = (do pure (.value (← Builtin.append_ #[t, t2] o.type #[a.eval x, a.eval y]))) := hex.trans (by simp only [List.map_toArray, List.map_cons, List.map_nil]; rfl)
              have hv' : ∀ b X Y, vexec (.append b e sz bytes X Y) st = vexec (.append b e sz bytes X (.lit (Y.get st.env))) st := fun b X Y => rfl
              split at hc
              · rename_i e' ht2
                split at hc
                · rename_i hee
                  subst hee
                  cases hc
                  rw [hv'] at hv
                  exact does_append h ht hi hcond.1 hcond.2 (cx_rep h h1).2 (cx_rep h h1).1 (cx_rep h h2).1 false hv ht2 rfl hex2
                · cases hc
              · rename_i ht2
                cases hc
                rw [hv'] at hv
                exact does_append h ht hi hcond.1 hcond.2 (cx_rep h h1).2 (cx_rep h h1).1 (cx_rep h h2).1 true hv ht2 rfl hex2
              · cases hc
            · cases hc
          · cases hc
        · cases hc
      · cases hc
    · -- max
      rename_i hcal
      have hex := exec_builtin (ρ := a.eval) hop hcal
      split at hc
      · rename_i x y hargs
        have hargs' : c.args = #[x, y] := by rw [← Array.toArray_toList (xs := c.args), hargs]
        rw [hargs'] at hex
        split at hc
        · rename_i x' y' h1 h2
          cases hc
          simp only [vexec] at hv
          split at hv
          · rename_i k a1 k' b1 hx hy
            split at hv
            · rename_i hk
              subst hk
              cases hv
              have r1 := (cx_rep h h1).1
              have r2 := (cx_rep h h2).1
              rw [hx] at r1
              rw [hy] at r2
              refine does_atom h o.dst (execOp_val hex _ ?_) rfl
              have := run_mm (P := P) (w := w) true k a1 b1 c.argTypes o.type
              simpa [r1.atom, r2.atom] using this
            · cases hv
          · cases hv
        · cases hc
      · cases hc
    · -- min
      rename_i hcal
      have hex := exec_builtin (ρ := a.eval) hop hcal
      split at hc
      · rename_i x y hargs
        have hargs' : c.args = #[x, y] := by rw [← Array.toArray_toList (xs := c.args), hargs]
        rw [hargs'] at hex
        split at hc
        · rename_i x' y' h1 h2
          cases hc
          simp only [vexec] at hv
          split at hv
          · rename_i k a1 k' b1 hx hy
            split at hv
            · rename_i hk
              subst hk
              cases hv
              have r1 := (cx_rep h h1).1
              have r2 := (cx_rep h h2).1
              rw [hx] at r1
              rw [hy] at r2
              refine does_atom h o.dst (execOp_val hex _ ?_) rfl
              have := run_mm (P := P) (w := w) false k a1 b1 c.argTypes o.type
              simpa [r1.atom, r2.atom] using this
            · cases hv
          · cases hv
        · cases hc
      · cases hc
    · cases hc
  · cases hc

end
end Go.V

