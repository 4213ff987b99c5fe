/- The evaluator's operations are the machine's. No condition. -/
import Derived.Test.YtapdjooadgdbaaaEA
import Derived.Deep.MidRow
import Derived.Great.BuildSlice
import Derived.Laws.BytesString
import Derived.Laws.MakeOwn
import Derived.Laws.IdiomStrings
import Derived.Deep.AppendSrc
import Derived.Deep.Upon
set_option linter.unusedVariables false
namespace Go.E
open Go Go.RowKit

section
variable {P : Program} {E : Env} {w0 : World} {Ob A B F : Nat → Prop} {μ : Mu} {w : World} {base : Nat} {s : St} {a : Act} {v : V} {m' : Hp}

theorem ok_pair {v v' : V} {m m' : Hp} (h : some (v, m) = some (v', m')) : v = v' ∧ m = m' := by cases h; exact ⟨rfl, rfl⟩

theorem R_err {b : Bool} {cv : Value} (h : R F B w μ (.val .err b) cv) : (b = false → cv = .nilIface) ∧ (b = true → ∃ t x, cv = .iface t x) := by
  simp only [R, Ty.agg, RC] at h
  obtain ⟨v, e, h1, h2⟩ := h
  cases e; exact ⟨h1, h2⟩

theorem agg_of {x : V} {cx : Value} (hx : R F B w μ x cx) (h : x.aggy = true) : ∃ xs, cx = .agg xs ∧ RL F B w μ x.cells xs.toList := by
  cases x <;> simp [V.aggy] at h
  · rename_i τ y
    have k := cells_ok hx (by simp)
    simp only [R, h] at hx
    obtain ⟨cs, rfl, _⟩ := hx
    exact ⟨cs, rfl, k⟩
  · have k := cells_ok hx (by simp)
    simp only [R] at hx
    obtain ⟨cs, rfl, _⟩ := hx
    exact ⟨cs, rfl, k⟩

theorem eqIn_nil_nil (d : Nat) {t : Nat} {ms} (hu : P.underlying t = some (.interface ms)) : (Op.equalIn (d + 1) t .nilIface .nilIface).run P w = .ok true w := by
  simp only [Op.equalIn, Sem.run_bind, run_underlying hu, Result.andThen_ok, Sem.run_pure]
theorem eqIn_iface_nil (d : Nat) {t t' : Nat} {y : Value} {ms} (hu : P.underlying t = some (.interface ms)) : (Op.equalIn (d + 1) t (.iface t' y) .nilIface).run P w = .ok false w := by
  simp only [Op.equalIn, Sem.run_bind, run_underlying hu, Result.andThen_ok, Sem.run_pure]
theorem run_nil_nil {t : Nat} {ms} (hu : P.underlying t = some (.interface ms)) : (Op.equal t .nilIface .nilIface).run P w = .ok true w := eqIn_nil_nil 9999 hu
theorem run_iface_nil {t t' : Nat} {y : Value} {ms} (hu : P.underlying t = some (.interface ms)) : (Op.equal t (.iface t' y) .nilIface).run P w = .ok false w := eqIn_iface_nil 9999 hu

set_option maxHeartbeats 2000000 in
theorem good_binOp (h : Pre P E w0 Ob A B F μ s a w) {o : Oper} {op : BinOp} {t u : Nat} {x y : Operand} (ho : o.op = .binOp op t x y u) (hf : opF E o.op base s = some (v, m')) : Good P E.G w0 Ob A B F μ base o a w v m' := by
  rw [ho] at hf; simp only [opF, opK] at hf
  have hx := h.ev x
  have hy := h.ev y
  split at hf
  · rename_i k p k' q e1 e2
    rw [e1] at hx; rw [e2] at hy
    have ex := R_int hx; have ey := R_int hy
    split at hf
    · rename_i hk; subst hk
      have g : ∀ op, (eqGuard op t x y (a.eval x) (a.eval y)).run P w = .ok () w := fun op => guard_plain (fun cs e => by rw [ex] at e; cases e) (fun e => by rw [ex] at e; cases e)
      split at hf
      · obtain ⟨hb, hf⟩ := (iteB_some hf).elim (fun ⟨_, e⟩ => by cases e) id
        obtain ⟨rfl, rfl⟩ := ok_pair hf
        refine Good.same h (cv := .int k (divI k p q)) (exec_binOp ho (g _) ?_) (mk_int _ _)
        have : q ≠ 0 := by simpa [eqI] using hb
        simp [ex, ey, binOp, Op.intDiv, this, divI]
      · obtain ⟨hb, hf⟩ := (iteB_some hf).elim (fun ⟨_, e⟩ => by cases e) id
        obtain ⟨rfl, rfl⟩ := ok_pair hf
        refine Good.same h (cv := .int k (modI p q)) (exec_binOp ho (g _) ?_) (mk_int _ _)
        have : q ≠ 0 := by simpa [eqI] using hb
        simp [ex, ey, binOp, Op.intDiv, this, modI]
      · split at hf
        · rename_i r hr
          obtain ⟨rfl, rfl⟩ := ok_pair hf
          obtain ⟨cv, k1, k2⟩ := run_binI (P := P) (F := F) (B := B) (μ := μ) (w := w) (t := t) hr
          exact Good.same h (exec_binOp ho (g _) (by rw [ex, ey]; exact k1)) k2
        · cases hf
    · cases hf
  · rename_i p q e1 e2
    rw [e1] at hx; rw [e2] at hy
    have ex := R_str hx; have ey := R_str hy
    have g : ∀ op, (eqGuard op t x y (a.eval x) (a.eval y)).run P w = .ok () w := fun op => guard_plain (fun cs e => by rw [ex] at e; cases e) (fun e => by rw [ex] at e; cases e)
    split at hf
    · obtain ⟨hb, hf⟩ := iteB_none hf
      obtain ⟨rfl, rfl⟩ := ok_pair hf
      refine Good.same h (cv := .string (catS p q)) (exec_binOp ho (g _) ?_) (mk_str _)
      have hb : p.size + q.size ≤ roomMax := by simpa [roomS] using hb
      unfold roomMax at hb
      have : ¬ (((p.size + q.size : Nat) : Int) > IntKind.i64.max) := by simp [IntKind.max, IntKind.bits, IntKind.signed]; omega
      simp only [ex, ey, binOp, Op.stringOp, if_neg this, catS, Sem.run_pure]
    · split at hf
      · rename_i r hr
        obtain ⟨rfl, rfl⟩ := ok_pair hf
        obtain ⟨cv, k1, k2⟩ := run_binS (P := P) (F := F) (B := B) (μ := μ) (w := w) (t := t) hr
        exact Good.same h (exec_binOp ho (g _) (by rw [ex, ey]; exact k1)) k2
      · cases hf
  · rename_i p q e1 e2
    rw [e1] at hx; rw [e2] at hy
    have ex := R_bool hx; have ey := R_bool hy
    have g : ∀ op, (eqGuard op t x y (a.eval x) (a.eval y)).run P w = .ok () w := fun op => guard_plain (fun cs e => by rw [ex] at e; cases e) (fun e => by rw [ex] at e; cases e)
    obtain ⟨l, hl, hf⟩ := wT_some hf
    have hk := (h.env.lay t l hl).kind
    split at hf
    · rename_i e; rw [e] at hk
      have := run_equal_bool (P := P) w t p q hk.1
      split at hf
      · obtain ⟨rfl, rfl⟩ := ok_pair hf
        refine Good.same h (cv := .bool (eqBo p q)) (exec_binOp ho (g _) ?_) (mk_bool _)
        rw [ex, ey]; simp only [binOp, Sem.run_bind, this, Result.andThen_ok, Sem.run_pure]; rfl
      · obtain ⟨rfl, rfl⟩ := ok_pair hf
        refine Good.same h (cv := .bool (notB (eqBo p q))) (exec_binOp ho (g _) ?_) (mk_bool _)
        rw [ex, ey]; simp only [binOp, Sem.run_bind, this, Result.andThen_ok, Sem.run_pure]; rfl
      · cases hf
    · cases hf
  · rename_i p q e1 e2
    rw [e1] at hx
    have ex := R_err hx
    obtain ⟨l, hl, hf⟩ := wT_some hf
    have hk := (h.env.lay t l hl).kind
    have key : ∀ (ms) , P.underlying t = some (.interface ms) → (Op.equal t (a.eval x) .nilIface).run P w = .ok (notB p) w := by
      intro ms hu
      cases hp : (p : Bool) with
      | false => rw [ex.1 hp]; exact run_nil_nil hu
      | true => obtain ⟨t', y', e⟩ := ex.2 hp; rw [e]; exact run_iface_nil hu
    have hne : ∀ cs, a.eval x ≠ .agg cs := fun cs e => by
      cases hp : (p : Bool) with
      | false => rw [ex.1 hp] at e; cases e
      | true => obtain ⟨t', y', e'⟩ := ex.2 hp; rw [e'] at e; cases e
    have hb : ∀ op, (eqGuard op t x (.const .nilIface) (a.eval x) .nilIface).run P w = .ok () w := fun op => guard_plain hne (fun _ _ => ⟨_, rfl⟩)
    split at hf
    · rename_i e; rw [e] at hk
      obtain ⟨⟨ms, hu⟩, _⟩ := hk
      have k := key ms hu
      split at hf
      · split at hf
        · obtain ⟨rfl, rfl⟩ := ok_pair hf
          refine Good.same h (cv := .bool (notB p)) (exec_binOp ho (hb _) ?_) (mk_bool _)
          cases hp : (p : Bool) with
          | false =>
            rw [hp] at k; rw [ex.1 hp] at k ⊢
            simp only [Act.eval, binOp, Sem.run_bind, k, Result.andThen_ok, Sem.run_pure]
          | true =>
            rw [hp] at k; obtain ⟨t', y', e⟩ := ex.2 hp; rw [e] at k ⊢
            simp only [Act.eval, binOp, Sem.run_bind, k, Result.andThen_ok, Sem.run_pure]
        · obtain ⟨rfl, rfl⟩ := ok_pair hf
          refine Good.same h (cv := .bool p) (exec_binOp ho (hb _) ?_) (mk_bool _)
          cases hp : (p : Bool) with
          | false =>
            rw [hp] at k; rw [ex.1 hp] at k ⊢
            simp only [Act.eval, binOp, Sem.run_bind, k, Result.andThen_ok, Sem.run_pure, notB]; rfl
          | true =>
            rw [hp] at k; obtain ⟨t', y', e⟩ := ex.2 hp; rw [e] at k ⊢
            simp only [Act.eval, binOp, Sem.run_bind, k, Result.andThen_ok, Sem.run_pure, notB]; rfl
        · cases hf
      · cases hf
    · cases hf
  · rename_i p q _ _ _ _
    obtain ⟨l, hl, hf⟩ := wT_some hf
    have hk := (h.env.lay t l hl).kind
    split at hf
    · rename_i fs e; rw [e] at hk
      obtain ⟨fields, hu, rfl, hfl, hst, hgt⟩ := hk
      split at hf
      · rename_i hse
        simp only [structEq, Bool.and_eq_true, decide_eq_true_eq] at hse
        obtain ⟨⟨hr, hA⟩, hB⟩ := hse
        obtain ⟨xs, ex, kx⟩ := agg_of hx hA
        obtain ⟨ys, ey, ky⟩ := agg_of hy hB
        have hof : ∀ j f, fields.toList[j]? = some f → f.offset = 0 + j := fun j f hj => by
          have h1 := congrArg (fun l => l[j]?) hr
          simp only [List.map_map, List.length_map, List.getElem?_map, hj, Option.map_some, Function.comp] at h1
          rw [List.getElem?_range (List.getElem?_eq_some_iff.1 hj).1] at h1
          simpa using h1
        have run : ∀ c, eqL E.L ((fields.toList.map fun f => (f.offset, f.type)).map (·.2)) (opnd E s x).cells (opnd E s y).cells = some c → (Op.equalIn 10000 t (.agg xs) (.agg ys)).run P w = .ok c w := fun c hc => by
          have hff : P.fieldsOf t = fields := by simp [Program.fieldsOf, hu]
          rw [run_equalIn_struct (P := P) w 9999 t xs ys (by rw [hff]; exact hu) hst, hff]
          exact run_eqL h.env 9998 fields.toList 0 _ _ _ _ hof (fun f hf => (hfl f hf).1) (fun j v hj => by simpa using hj) (fun j v hj => by simpa using hj) kx ky c
            (by rw [List.map_map] at hc; exact hc)
        split at hf
        rotate_left
        · cases hf
        rename_i c hc
        split at hf
        · obtain ⟨rfl, rfl⟩ := ok_pair hf
          refine Good.same h (cv := .bool c) (exec_binOp ho (by rw [ex, ey]; exact run_eqGuard_agg w _ _ _ _ _ _ hgt) ?_) (mk_bool _)
          rw [ex, ey, run_eql_struct, run c hc]; rfl
        · obtain ⟨rfl, rfl⟩ := ok_pair hf
          refine Good.same h (cv := .bool (notB c)) (exec_binOp ho (by rw [ex, ey]; exact run_eqGuard_agg w _ _ _ _ _ _ hgt) ?_) (mk_bool _)
          rw [ex, ey, run_neq_struct, run c hc]; rfl
        · cases hf
      · cases hf
    · cases hf

theorem good_unOp (h : Pre P E w0 Ob A B F μ s a w) {o : Oper} {op : UnOp} {t : Nat} {x : Operand} (ho : o.op = .unOp op t x) (hf : opF E o.op base s = some (v, m')) : Good P E.G w0 Ob A B F μ base o a w v m' := by
  rw [ho] at hf; simp only [opF, opK] at hf
  have hx := h.ev x
  split at hf
  · rename_i b e
    rw [e] at hx; have ex := R_bool hx
    obtain ⟨rfl, rfl⟩ := ok_pair hf
    exact Good.same h (cv := .bool (notB b)) (by unfold execOp; rw [ho]; simp [ex, Op.unary, notB]) (mk_bool _)
  · rename_i k n e
    rw [e] at hx; have ex := R_int hx
    obtain ⟨rfl, rfl⟩ := ok_pair hf
    exact Good.same h (cv := .int k (negI k n)) (by unfold execOp; rw [ho]; simp [ex, Op.unary, Op.intArith, negI]) (mk_int _ _)
  · cases hf

theorem good_extract (h : Pre P E w0 Ob A B F μ s a w) {o : Oper} {x : Operand} {i : Nat} (ho : o.op = .extract x i) (hf : opF E o.op base s = some (v, m')) : Good P E.G w0 Ob A B F μ base o a w v m' := by
  rw [ho] at hf; simp only [opF, opK] at hf
  have hx := h.ev x
  split at hf
  · rename_i vs e
    rw [e] at hx
    simp only [R] at hx
    obtain ⟨cs, ex, k⟩ := hx
    split at hf
    · rename_i u hu
      obtain ⟨rfl, rfl⟩ := ok_pair hf
      obtain ⟨cv, k1, k2⟩ := k.get hu
      exact Good.same h (cv := cv) (by unfold execOp; rw [ho]; have k1' : cs[i]? = some cv := by simpa using k1
                                       simp [ex, Instr.extract, k1']) k2
    · cases hf
  · cases hf

theorem RL_map (hev : ∀ x, R F B w μ (opnd E s x) (a.eval x)) : ∀ (l : List Operand), RL F B w μ (l.map (opnd E s)) (l.map a.eval)
  | [] => by simp [RL]
  | x :: r => by simp only [List.map_cons, RL]; exact ⟨hev x, RL_map hev r⟩

theorem good_makeFunc (h : Pre P E w0 Ob A B F μ s a w) {o : Oper} {f : Nat} {x y : Array Operand} (ho : o.op = .makeFunc (.func f) x y) (hf : opF E o.op base s = some (v, m')) : Good P E.G w0 Ob A B F μ base o a w v m' := by
  rw [ho] at hf; simp only [opF, opK] at hf
  split at hf
  · rename_i hx
    have hx' : x = #[] := by cases x; simpa using hx
    subst hx'
    obtain ⟨rfl, rfl⟩ := ok_pair hf
    refine Good.same h (cv := .func (.func f) #[] (y.map a.eval)) (by unfold execOp; rw [ho]; simp [Instr.makeFunc]) ?_
    simp only [R]
    exact ⟨_, rfl, by simpa using RL_map h.ev y.toList⟩
  · cases hf
end
end Go.E

set_option linter.unusedVariables false
namespace Go.E
open Go Go.RowKit

section
variable {P : Program} {E : Env} {w0 : World} {Ob A B F : Nat → Prop} {μ : Mu} {w : World} {base : Nat} {s : St} {a : Act} {v : V} {m' : Hp}

theorem run_fieldPlace {f : Field} {l : TL} (hE : EnvOk P E) (hl : look E.L f.type = some l) (p : Addr) : (fieldPlace p f).run P w = .ok (p.add f.offset) w := by
  have h := hE.lay _ l hl
  simp [fieldPlace, h.run_size, h.pos]

theorem field_of {t i off u : Nat} {l lu : TL} {fs : List (Nat × TypeId)} (hE : EnvOk P E) (hl : look E.L t = some l) (hk : l.k = .st fs) (hi : fs[i]? = some (off, u)) :
    ∃ fields f, P.underlying t = some (.struct fields) ∧ fields[i]? = some f ∧ f.offset = off ∧ f.type = u ∧ off + (match look E.L u with | some lu => lu.ty.width | none => 0) ≤ l.ty.width := by
  have h := (hE.lay t l hl).kind
  rw [hk] at h
  obtain ⟨fields, hu, rfl, hf, _⟩ := h
  simp only [List.getElem?_map, Option.map_eq_some_iff] at hi
  obtain ⟨f, h1, h2⟩ := hi
  cases h2
  obtain ⟨_, lu, h3, h4⟩ := hf f (List.mem_of_getElem? h1)
  exact ⟨fields, f, hu, by simpa using h1, rfl, rfl, by rw [h3]; exact h4⟩

theorem exec_fieldAddr {o : Oper} {t i : Nat} {x : Operand} (ho : o.op = .fieldAddr t x i) (hE : EnvOk P E) {fields : Array Field} {f : Field} {lu : TL} (hu : P.underlying t = some (.struct fields)) (hf : fields[i]? = some f)
    (hl : look E.L f.type = some lu) {p : Addr} (hx : a.eval x = .pointer (some p)) : (execOp a.eval o).run P w = .ok (.value (.pointer (some (p.add f.offset)))) w := by
  unfold execOp; rw [ho]
  simp [hx, Instr.fieldAt, Instr.sureAddr, run_underlying hu, hf, run_fieldPlace hE hl]

theorem good_fieldAddr (h : Pre P E w0 Ob A B F μ s a w) {o : Oper} {t i : Nat} {x : Operand} (ho : o.op = .fieldAddr t x i) (hf : opF E o.op base s = some (v, m')) : Good P E.G w0 Ob A B F μ base o a w v m' := by
  rw [ho] at hf; simp only [opF, opK] at hf
  obtain ⟨l, fs, off, u, lu, hl, hk, hi, hlu, hf⟩ := wF_some hf
  obtain ⟨fields, f, hu, hfi, rfl, rfl, _⟩ := field_of (lu := lu) h.env hl hk hi
  have hx := h.ev x
  split at hf
  · rename_i b o' e
    rw [e] at hx; simp only [R] at hx
    obtain ⟨q, e1, p, e2, e3⟩ := hx
    obtain ⟨rfl, rfl⟩ := ok_pair hf
    refine Good.same h (exec_fieldAddr ho h.env hu hfi hlu e2) ?_
    simp only [R]
    refine ⟨q, e1, _, rfl, fun r hr => ?_⟩
    obtain ⟨ad, e4, rfl⟩ := e3 r hr
    exact ⟨ad, e4, by rw [addr_add, Nat.add_assoc]⟩
  · rename_i b j o' e
    rw [e] at hx; simp only [R] at hx
    obtain ⟨q, e1, p, e2, e3⟩ := hx
    obtain ⟨rfl, rfl⟩ := ok_pair hf
    refine Good.same h (exec_fieldAddr ho h.env hu hfi hlu e2) ?_
    simp only [R]
    refine ⟨q, e1, _, rfl, fun r hr => ?_⟩
    obtain ⟨ad, e4, rfl⟩ := e3 r hr
    exact ⟨ad, e4, by rw [addr_add]; simp only [Nat.add_assoc]⟩
  · rename_i cs e
    rw [e] at hx; simp only [R] at hx
    obtain ⟨ad, vs, e1, e2, e3, e4, e5⟩ := hx
    obtain ⟨rfl, rfl⟩ := ok_pair hf
    refine Good.same h (exec_fieldAddr ho h.env hu hfi hlu e1) ?_
    obtain ⟨b, of, sp⟩ := ad
    simp at e2; subst e2
    simp only [R]
    refine ⟨_, vs.drop f.offset, rfl, by rw [addr_add], by rw [addr_add]; exact e3, e4.drop _, ?_⟩
    rw [addr_add]
    intro j cv hj
    rw [List.getElem?_drop] at hj
    rw [Nat.add_assoc]; exact e5 _ _ hj
  · rename_i τ y e
    rw [e] at hx; simp only [R] at hx
    obtain ⟨ad, cs, e1, e2, e3, e4, e5⟩ := hx
    split at hf
    · rename_i z hz
      obtain ⟨rfl, rfl⟩ := ok_pair hf
      refine Good.same h (exec_fieldAddr ho h.env hu hfi hlu e1) ?_
      obtain ⟨b, of, sp⟩ := ad
      simp at e2; subst e2
      obtain ⟨d, k1, k2, k3⟩ := atOff_ok τ e4 hz (h.env.lay _ lu hlu).notUnit
      simp only [R]
      refine ⟨_, d, rfl, by rw [addr_add], by rw [addr_add]; exact e3, k2, ?_⟩
      rw [addr_add, ← k1]
      exact e5.sub _ _
    · cases hf
  · cases hf

theorem part_agg {E : Env} (hE : EnvOk P E) {u off : Nat} {l : TL} (hl : look E.L u = some l) {cs : Array Value} :
    (l.ty.agg = true → (part u cs off).run P w = .ok (.agg (cs.extract off (off + l.ty.width))) w) ∧ (l.ty.agg = false → ∀ cv, cs.toList[off]? = some cv → (part u cs off).run P w = .ok cv w) := by
  have h := hE.lay u l hl
  constructor
  · intro ha; simp [part, h.run_agg, ha, h.run_size]
  · intro ha cv hc; exact part_scal hE hl ha hc

theorem good_field (h : Pre P E w0 Ob A B F μ s a w) {o : Oper} {t i : Nat} {x : Operand} (ho : o.op = .field t x i) (hf : opF E o.op base s = some (v, m')) : Good P E.G w0 Ob A B F μ base o a w v m' := by
  rw [ho] at hf; simp only [opF, opK] at hf
  obtain ⟨l, fs, off, u, lu, hl, hk, hi, hlu, hf⟩ := wF_some hf
  obtain ⟨fields, f, hu, hfi, rfl, rfl, hb⟩ := field_of (lu := lu) h.env hl hk hi
  have hx := h.ev x
  have hlay := h.env.lay _ lu hlu
  have fin : ∀ {cs : Array Value} {cv : Value}, a.eval x = .agg cs → (part f.type cs f.offset).run P w = .ok cv w → R F B w μ v cv → m' = s.m → Good P E.G w0 Ob A B F μ base o a w v m' := by
    intro cs cv e1 e2 e3 e4
    subst e4
    refine Good.same h (cv := cv) ?_ e3
    unfold execOp; rw [ho]; simp [e1, Instr.field, run_underlying hu, hfi, asAgg, e2]
  split at hf
  · rename_i τ y e
    rw [e] at hx
    have hx' := hx
    split at hf
    rotate_left
    · cases hf
    rename_i hτ
    unfold loadRp at hf
    split at hf
    · rename_i z hz
      obtain ⟨rfl, rfl⟩ := ok_pair hf
      simp only [R, hτ] at hx
      obtain ⟨cs, e1, k⟩ := hx
      obtain ⟨d, k1, k2, k3⟩ := atOff_ok τ k hz hlay.notUnit
      cases ha : lu.ty.agg with
      | true =>
        refine fin e1 ((part_agg h.env hlu).1 ha) ?_ rfl
        simp only [R, ha]
        exact ⟨_, rfl, by rw [Array.toList_extract, List.extract_eq_take_drop]; simpa [k1] using k2⟩
      | false =>
        have hw := width_one ha hlay.notUnit
        obtain ⟨cv, rfl⟩ : ∃ cv, d = [cv] := List.length_eq_one_iff.1 (k2.len.trans hw)
        refine fin e1 ((part_agg h.env hlu).2 ha cv ?_) (by simp only [R, ha]; exact k2) rfl
        have := congrArg (fun l => l[0]?) k1
        rw [hw] at this
        simpa using this
    · cases hf
  · rename_i cs e
    rw [e] at hx
    simp only [R] at hx
    obtain ⟨vs, e1, k⟩ := hx
    rcases cellK_some hf with ⟨ha, hk, hf⟩ | ⟨ha, z, hz, hf⟩ <;> obtain ⟨rfl, rfl⟩ := ok_pair hf
    · refine fin e1 ((part_agg h.env hlu).1 ha) ?_ rfl
      simp only [R]
      exact ⟨_, rfl, by rw [Array.toList_extract, List.extract_eq_take_drop]; simpa using (k.drop _).take _⟩
    · obtain ⟨cv, k1, k2⟩ := k.get hz
      exact fin e1 ((part_agg h.env hlu).2 ha cv k1) k2 rfl
  · cases hf

theorem exec_indexAddr {o : Oper} {t e : Nat} {n : Nat} {x i : Operand} (ho : o.op = .indexAddr t x i) (hu : P.underlying t = some (.slice e)) (hs : (Go.sizeOf e).run P w = .ok n w) {ad : Addr} {len cap : Nat} {k : IntKind} {j : Int}
    (hx : a.eval x = .slice (some ad) len cap) (hi : a.eval i = .int k j) (h0 : 0 ≤ j) (h1 : j < len) : (execOp a.eval o).run P w = .ok (.value (.pointer (some (ad.add (j.toNat * n))))) w := by
  unfold execOp; rw [ho]
  simp [hx, hi, Instr.indexAt, asIntOf, run_underlying hu, hs, h0, h1]

theorem good_indexAddr (h : Pre P E w0 Ob A B F μ s a w) {o : Oper} {t : Nat} {x i : Operand} (ho : o.op = .indexAddr t x i) (hf : opF E o.op base s = some (v, m')) : Good P E.G w0 Ob A B F μ base o a w v m' := by
  rw [ho] at hf; simp only [opF, opK] at hf
  obtain ⟨l, e, le, hl, hk, hle, hf⟩ := wE_some hf
  have hu := (h.env.lay t l hl).kind
  rw [hk] at hu
  replace hu := hu.1
  have hs := (h.env.lay e le hle).run_size w
  obtain ⟨k, n, hi, hf⟩ := wI_some hf
  have ei := R_int (hi ▸ h.ev i)
  have hx := h.ev x
  -- frozen rows
  have frozen : ∀ {r : List (D le.ty)} {ad : Option Addr} {cap : Nat} {y : D le.ty}, SlR F F w le.ty r (a.eval x) ad cap → atL r n = some y → v = .rp le.ty y → m' = s.m → Good P E.G w0 Ob A B F μ base o a w v m' := by
    intro r ad cap y hsl hy e1 e2
    obtain ⟨h0, hy⟩ := atL_some hy
    have hlt : n.toNat < r.length := (List.getElem?_eq_some_iff.1 hy).1
    cases ad with
    | none =>
      have := hsl.nil rfl; have := hsl.le; omega
    | some ad =>
      obtain ⟨k1, k2, k3⟩ := hsl.at_ ad rfl (by have := hsl.le; omega)
      obtain ⟨c, k4, k5⟩ := k3 _ y hy
      subst e1 e2
      refine Good.same h (exec_indexAddr ho hu hs hsl.val ei h0 (by omega)) ?_
      obtain ⟨b, of, sp⟩ := ad
      simp at k1; subst k1
      simp only [R]
      exact ⟨_, c, rfl, by rw [addr_add], by rw [addr_add]; exact k2, k4, by rw [addr_add]; exact k5⟩
  split at hf
  · rename_i b e1
    split at hf
    · rename_i τ r hb
      split at hf
      rotate_left
      · cases hf
      rename_i hτ; subst hτ
      obtain ⟨h0, hf⟩ := iteB_none hf
      obtain ⟨h1, hf⟩ := iteB_none hf
      obtain ⟨rfl, rfl⟩ := ok_pair hf
      have h0 : 0 ≤ n := of_decide_eq_true h0
      have h1 : n < (r.length : Int) := of_decide_eq_true h1
      rw [e1] at hx; simp only [R] at hx
      obtain ⟨q, e2, p1, p2, p3, e3, e4⟩ := hx
      obtain ⟨q', e5, k1, k2, k3, k4, k5⟩ := h.mem.box b _ hb
      rw [e2] at e5; cases e5
      obtain ⟨rfl, rfl, rfl⟩ := e4 q' rfl
      have h2 : n.toNat < q'.len := by rw [k1]; exact (Int.toNat_lt h0).2 h1
      cases hqa : q'.a with
      | none => have := k4 hqa; omega
      | some ad =>
        obtain ⟨g1, _⟩ := k5 ad hqa
        rw [hqa] at e3
        refine Good.same h (exec_indexAddr ho hu hs e3 ei h0 (by omega)) ?_
        obtain ⟨bb, of, sp⟩ := ad
        simp at g1; subst g1
        simp only [R]
        refine ⟨_, e2, _, rfl, fun q hq => ?_⟩
        cases hq
        exact ⟨_, hqa, by rw [addr_add, k3]; simp⟩
    · rename_i τ r hb
      split at hf
      rotate_left
      · cases hf
      rename_i hτ; subst hτ
      obtain ⟨y, hy, hf⟩ := bindO_some hf
      obtain ⟨rfl, rfl⟩ := ok_pair hf
      obtain ⟨ad, cap, hsl⟩ := rowsOf_ok (X := fun c => F c) h.mem (fun _ x => x) hx (by
        rw [e1]; intro c hc τ' r' q ad e0 e2 e3
        simp [arrs1] at hc; subst hc
        rw [hb] at e0; cases e0) (τ := le.ty) (l := r) (by rw [e1]; simp only [rowsOf, hb]; simp [castD])
      exact frozen hsl hy rfl rfl
    · cases hf
  · rename_i e' r e1
    split at hf
    rotate_left
    · cases hf
    rename_i hτ; subst hτ
    obtain ⟨y, hy, hf⟩ := bindO_some hf
    obtain ⟨rfl, rfl⟩ := ok_pair hf
    obtain ⟨ad, cap, hsl⟩ := rowsOf_ok (X := fun c => F c) h.mem (fun _ x => x) hx (by rw [e1]; intro c hc; simp [arrs1] at hc) (τ := le.ty) (l := r) (by rw [e1]; simp only [rowsOf]; simp [castD])
    exact frozen hsl hy rfl rfl
  · cases hf

theorem good_index (h : Pre P E w0 Ob A B F μ s a w) {o : Oper} {t : Nat} {x i : Operand} (ho : o.op = .index t x i) (hf : opF E o.op base s = some (v, m')) : Good P E.G w0 Ob A B F μ base o a w v m' := by
  rw [ho] at hf; simp only [opF, opK] at hf
  obtain ⟨l, hl, hf⟩ := wT_some hf
  obtain ⟨k, n, hi, hf⟩ := wI_some hf
  have ei := R_int (hi ▸ h.ev i)
  have hk := (h.env.lay t l hl).kind
  split at hf
  · rename_i e; rw [e] at hk
    split at hf
    · rename_i b e1
      have ex := R_str (e1 ▸ h.ev x)
      obtain ⟨z, hz, hf⟩ := bindO_some hf
      obtain ⟨rfl, rfl⟩ := ok_pair hf
      unfold atS at hz
      split at hz
      · rename_i h0
        simp only [Option.map_eq_some_iff] at hz
        obtain ⟨c, h1, rfl⟩ := hz
        refine Good.same h (cv := .int .u8 c.toNat) ?_ (mk_int _ _)
        have h2 : b[n.toNat]? = some c := by
          obtain ⟨hlt, he⟩ := Array.getElem?_eq_some_iff.1 h1
          rw [getElem?_pos b n.toNat hlt]; exact congrArg some he
        unfold execOp; rw [ho]
        simp [ex, ei, Instr.index, asIntOf, run_underlying hk.1, h0, h2]
      · cases hz
    · cases hf
  · cases hf
end
end Go.E

set_option linter.unusedVariables false
namespace Go.E
open Go Go.RowKit

/-- The numbers that an operation may give out are free. -/
def Fresh (μ : Mu) (base : Nat) : Prop := ∀ k, k < 64 → μ (base + k) = none

section
variable {P : Program} {E : Env} {G : List (Nat × List V)} {w0 : World} {Ob A B F : Nat → Prop} {μ : Mu} {m : Hp} {w : World} {base : Nat} {s : St} {a : Act} {v : V} {m' : Hp}

theorem Fresh.at0 (h : Fresh μ base) : μ base = none := by have := h 0 (by omega); simpa using this

theorem cell_new (w : World) (c : Array Value) (t : TypeId) (fr : Nat × Nat) (i : Nat) : (w.alloc (.cells c t fr)).cell? ⟨w.heap.size, i, none⟩ = c[i]? := by
  simp only [World.cell?, World.alloc, Array.getElem?_push_size]; rfl

theorem frozen_new (w : World) (c : Array Value) (t : TypeId) (fr : Nat × Nat) (i : Nat) : (w.alloc (.cells c t fr)).frozen? ⟨w.heap.size, i, none⟩ = (decide (fr.1 ≤ i) && decide (i < fr.2)) := by
  simp only [World.frozen?, World.alloc, Array.getElem?_push_size]

theorem loc_upd (μ : Mu) (base : Nat) (o : Option MB) : ∀ id, ¬ (base ≤ id ∧ id < base + 64) → μ id = none → upd μ base o id = none := fun id h e => by
  unfold upd; rw [if_neg (fun e => h (by omega))]; exact e

/-- A new variable. -/
theorem newBox (h : Mem G w0 Ob A B F μ m w) (hb : Fresh μ base) (c : Array Value) (t : TypeId) (cs : List V) (hr : RL F B w μ cs c.toList) :
    ∃ μ', Step1 G w0 Ob A B F μ w base F μ' ((base, some (.cs cs)) :: m) (w.alloc (.cells c t)) ∧ R F B (w.alloc (.cells c t)) μ' (.ptr base 0) (.pointer (some ⟨w.heap.size, 0, none⟩)) := by
  let q : MB := ⟨some ⟨w.heap.size, 0, none⟩, 0, 0, 0⟩
  have tr := Tr.alloc h (.cells c t) hb.at0 q
  refine ⟨upd μ base (some q), ⟨h.alloc hb.at0 (.cs cs) _ q (fun ad e => by cases e; rfl) rfl ?_, tr, loc_upd μ base _⟩, ?_⟩
  · refine ⟨_, c.toList, rfl, rfl, tr.RL hr, fun j v hj => ?_, fun k hk => ?_⟩
    · simp only [Nat.zero_add]; rw [cell_new]; simpa using hj
    · have := RL.len hr
      simp only [Nat.zero_add]
      refine ⟨by rw [cell_new]; simp at this; simp; omega, by rw [frozen_new]; simp⟩
  · simp only [R]
    exact ⟨some q, by simp [upd], _, rfl, fun p hp => by cases hp; exact ⟨_, rfl, rfl⟩⟩

/-- Rows, told by the cells of a block. -/
def RowsIn (F : Nat → Prop) (w : World) (τ : Ty) (l : List (D τ)) (c : List Value) : Prop := ∀ (i : Nat) x, l[i]? = some x → RC F w τ x ((c.drop (i * τ.width)).take τ.width)

theorem RowsIn.at_ {F : Nat → Prop} {w w' : World} {τ : Ty} {l : List (D τ)} {c : List Value} (h : RowsIn F w τ l c) (hk : Keep F w w') {b : Nat} (hc : ∀ i v, c[i]? = some v → w'.cell? ⟨b, i, none⟩ = some v) : RowsAt F w' τ l ⟨b, 0, none⟩ := fun i x hx =>
  ⟨_, (h i x hx).mono (fun _ y => y) hk, fun j v hj => by
    rw [List.getElem?_take] at hj
    split at hj
    · rw [List.getElem?_drop] at hj; simp only [Nat.zero_add]; exact hc _ _ hj
    · cases hj⟩

theorem newRows (h : Mem G w0 Ob A B F μ m w) (hb : Fresh μ base) (c : Array Value) (t : TypeId) (fr : Nat × Nat) (τ : Ty) (l : List (D τ)) (cap : Nat) (hle : l.length ≤ cap) (hcap : cap * τ.width ≤ c.size)
    (hfr : ∀ k, k < cap * τ.width → (decide (fr.1 ≤ k) && decide (k < fr.2)) = false) (hr : RowsIn F w τ l c.toList) :
    ∃ μ', Step1 G w0 Ob A B F μ w base F μ' ((base, some (.rows τ l)) :: m) (w.alloc (.cells c t fr)) ∧ R F B (w.alloc (.cells c t fr)) μ' (.arr base) (.slice (some ⟨w.heap.size, 0, none⟩) l.length cap) := by
  let q : MB := ⟨some ⟨w.heap.size, 0, none⟩, l.length, cap, τ.width⟩
  have tr := Tr.alloc h (.cells c t fr) hb.at0 q
  refine ⟨upd μ base (some q), ⟨h.alloc hb.at0 (.rows τ l) _ q (fun ad e => by cases e; rfl) rfl ?_, tr, loc_upd μ base _⟩, ?_⟩
  · refine ⟨rfl, hle, rfl, (fun e => by cases e), fun ad e => ?_⟩
    cases e
    refine ⟨rfl, hr.at_ tr.keep (fun i v hv => by rw [cell_new]; simpa using hv), fun k hk => ?_⟩
    simp only [Nat.zero_add]
    have hk' : k < cap * τ.width := hk
    exact ⟨by rw [cell_new]; simp; omega, by rw [frozen_new]; exact hfr k hk'⟩
  · simp only [R]
    exact ⟨some q, by simp [upd], _, _, _, rfl, fun p hp => by cases hp; exact ⟨rfl, rfl, rfl⟩⟩

theorem run_newRow (c : Array Value) (t : TypeId) : (newRow t c).run P w = .ok ⟨w.heap.size, 0, none⟩ (w.alloc (.cells c t)) := by
  rfl

theorem good_alloc (h : Pre P E w0 Ob A B F μ s a w) (hb : Fresh μ base) {o : Oper} {t : Nat} (ho : o.op = .alloc t) (hf : opF E o.op base s = some (v, m')) : Good P E.G w0 Ob A B F μ base o a w v m' := by
  rw [ho] at hf; simp only [opF, opK] at hf
  obtain ⟨l, hl, hf⟩ := wT_some hf
  obtain ⟨rfl, rfl⟩ := ok_pair hf
  obtain ⟨z, hz, hzs, hzr⟩ := (h.env.lay t l hl).run_zero
  obtain ⟨μ', st, r⟩ := newBox h.mem hb z.cells t l.zero (hz ▸ scalL_ok F B w μ z.cells.toList)
  refine Good.value ?_ st r
  unfold execOp; rw [ho]
  simp [Instr.alloc, hzr, newVar, run_newRow]

theorem good_box (h : Pre P E w0 Ob A B F μ s a w) (hb : Fresh μ base) {o : Oper} {t : Nat} {x : Operand} (ho : o.op = .box t x) (hf : opF E o.op base s = some (v, m')) : Good P E.G w0 Ob A B F μ base o a w v m' := by
  rw [ho] at hf; simp only [opF, opK] at hf
  obtain ⟨l, hl, hf⟩ := wT_some hf
  split at hf
  rotate_left
  · cases hf
  rename_i hc
  obtain ⟨rfl, rfl⟩ := ok_pair hf
  have hr : RL F B w μ (opnd E s x).cells (a.eval x).cells.toList := cells_ok (h.ev x) (fun e => by have := hc.2; rw [e] at this; cases this)
  obtain ⟨μ', st, r⟩ := newBox h.mem hb (a.eval x).cells t _ hr
  refine Good.value ?_ st r
  unfold execOp; rw [ho]
  simp [Instr.box, newVar, run_newRow]
end
end Go.E

set_option linter.unusedVariables false
namespace Go.E
open Go Go.RowKit

section
variable {P : Program} {E : Env} {G : List (Nat × List V)} {w0 : World} {Ob A B F : Nat → Prop} {μ : Mu} {m : Hp} {w : World} {base : Nat} {s : St} {a : Act} {v : V} {m' : Hp}

theorem one_ok {v : V} {cv : Value} (h : R F B w μ v cv) (ho : oneV v = true) : cv.oneCell' = true := by
  cases v with
  | undef => cases ho
  | agg cs => cases ho
  | tup cs => cases ho
  | nil => simp only [R] at h; subst h; rfl
  | nilp => simp only [R] at h; subst h; rfl
  | arr b => simp only [R] at h; obtain ⟨_, _, _, _, _, rfl, _⟩ := h; rfl
  | ptr b off => simp only [R] at h; obtain ⟨_, _, _, rfl, _⟩ := h; rfl
  | ep b i off => simp only [R] at h; obtain ⟨_, _, _, rfl, _⟩ := h; rfl
  | rp τ x => simp only [R] at h; obtain ⟨_, _, rfl, _⟩ := h; rfl
  | rc cs => simp only [R] at h; obtain ⟨_, _, rfl, _⟩ := h; rfl
  | fn f cs => simp only [R] at h; obtain ⟨_, rfl, _⟩ := h; rfl
  | val τ x =>
    cases τ with
    | pr a b => cases ho
    | q => cases ho
    | unit => cases ho
    | int k => have := R_int h; subst this; rfl
    | bool => have := R_bool h; subst this; rfl
    | str => have := R_str h; subst this; rfl
    | err =>
      have := R_err h
      cases hx : (x : Bool) with
      | false => rw [this.1 hx]; rfl
      | true => obtain ⟨t, y, e⟩ := this.2 hx; rw [e]; rfl
    | sl e => simp only [R, Ty.agg, RC] at h; obtain ⟨_, _, e, _⟩ := h; cases e; rfl

theorem oneL_ok : ∀ {vs : List V} {cs : List Value}, RL F B w μ vs cs → vs.all oneV = true → ∀ c ∈ cs, c.oneCell' = true
  | [], [], _, _ => by simp
  | v :: vs, c :: cs, h, ho => by
    simp only [RL] at h
    simp only [List.all_cons, Bool.and_eq_true] at ho
    intro d hd
    rcases List.mem_cons.1 hd with rfl | hd
    · exact one_ok h.1 ho.1
    · exact oneL_ok h.2 ho.2 d hd
  | [], _ :: _, h, _ => by simp [RL] at h
  | _ :: _, [], h, _ => by simp [RL] at h

/-- The cells of a typed value are of one cell each. -/
theorem RC.one : ∀ {τ : Ty} {x : D τ} {cs : List Value}, RC F w τ x cs → ∀ c ∈ cs, c.oneCell' = true := by
  intro τ
  induction τ with
  | pr a b iha ihb =>
    intro x cs h c hc; simp only [RC] at h; obtain ⟨d, e, rfl, h1, h2⟩ := h
    rcases List.mem_append.1 hc with hc | hc
    · exact iha h1 c hc
    · exact ihb h2 c hc
  | q =>
    intro x cs h c hc; simp only [RC] at h; cases h
    simp at hc; rcases hc with rfl | rfl | rfl | rfl | rfl | rfl <;> rfl
  | int k => intro x cs h c hc; simp only [RC] at h; subst h; simp at hc; subst hc; rfl
  | bool => intro x cs h c hc; simp only [RC] at h; subst h; simp at hc; subst hc; rfl
  | str => intro x cs h c hc; simp only [RC] at h; subst h; simp at hc; subst hc; rfl
  | unit => intro x cs h c hc; simp only [RC] at h; subst h; simp at hc
  | err =>
    intro x cs h c hc; simp only [RC] at h; obtain ⟨v, rfl, h1, h2⟩ := h
    simp at hc; subst hc
    cases hx : (x : Bool) with
    | false => rw [h1 hx]; rfl
    | true => obtain ⟨t, y, e⟩ := h2 hx; rw [e]; rfl
  | sl e => intro x cs h c hc; simp only [RC] at h; obtain ⟨_, _, rfl, _⟩ := h; simp at hc; subst hc; rfl

theorem Stor.set {b o n : Nat} (h : Stor w b o n) (g o' : Nat) (vs : List Value) : Stor (w.setCells g o' vs) b o n := fun k hk =>
  ⟨World.isSome_setCells g vs o' w _ (h k hk).1, by rw [World.frozen?_setCells]; exact (h k hk).2⟩

theorem cells_splice {b o : Nat} {vs us : List Value} {off : Nat} (hc : CellsAt w b o vs) (hs : Stor w b o vs.length) (hn : off + us.length ≤ vs.length) :
    CellsAt (w.setCells b (o + off) us) b o (vs.take off ++ us ++ vs.drop (off + us.length)) := fun j cv hj => by
  by_cases h1 : j < off
  · rw [World.cell?_setCells_out b us _ _ _ (fun _ _ => .inl (by simp; omega))]
    rw [List.append_assoc, List.getElem?_append_left (by simp; omega), List.getElem?_take, if_pos h1] at hj
    exact hc j cv hj
  · by_cases h2 : j < off + us.length
    · have h3 : j - off < us.length := by omega
      have := World.cell?_setCells_in b us (o + off) w (fun k hk => by rw [Nat.add_assoc]; exact (hs (off + k) (by omega)).1) (j - off) h3
      rw [show o + off + (j - off) = o + j by omega] at this
      rw [this]
      rw [List.append_assoc, List.getElem?_append_right (by simp; omega), List.getElem?_append_left (by simp; omega)] at hj
      simp only [List.length_take, Nat.min_eq_left (by omega : off ≤ vs.length)] at hj
      rw [← hj, List.getElem?_eq_getElem h3]
    · rw [World.cell?_setCells_out b us _ _ _ (fun _ _ => .inr (by simp; omega))]
      rw [List.getElem?_append_right (by simp; omega), List.getElem?_drop] at hj
      simp only [List.length_append, List.length_take, Nat.min_eq_left (by omega : off ≤ vs.length)] at hj
      rw [show off + us.length + (j - (off + us.length)) = j by omega] at hj
      exact hc j cv hj

theorem run_storeVar {t : Nat} {l : TL} (hl : Lay P E.L t l) {b o : Nat} {cv : Value} (hn : cv.cells.size = l.ty.width) (hs : Stor w b o l.ty.width) (h1 : ∀ c ∈ cv.cells.toList, c.oneCell' = true) :
    (storeVar t ⟨b, o, none⟩ cv).run P w = .ok () (w.setCells b o cv.cells.toList) := by
  have := run_storeCells_cells (P := P) b o cv.cells.toList 0 w (fun j hj => by simp at hj; simpa using (hs j (by omega)).1) (fun j hj => by simp at hj; simpa using (hs j (by omega)).2) h1
  simp [storeVar, hl.run_size, hn, this]
end
end Go.E

set_option linter.unusedVariables false
namespace Go.E
open Go Go.RowKit

section
variable {P : Program} {E : Env} {G : List (Nat × List V)} {w0 : World} {Ob A B F : Nat → Prop} {μ : Mu} {m : Hp} {w : World} {base : Nat} {s : St} {a : Act} {v : V} {m' : Hp}

theorem setOff_ok : ∀ (τ : Ty) {x : D τ} {cs : List Value}, RC F w τ x cs → ∀ {off : Nat} {σ : Ty} {y : D σ} {d : List Value}, RC F w σ y d → ∀ {z : D τ}, setOff τ x off σ y = some z → σ ≠ .unit →
    RC F w τ z (cs.take off ++ d ++ cs.drop (off + d.length)) ∧ off + d.length ≤ cs.length := by
  intro τ
  have whole : ∀ (τ : Ty) {cs : List Value}, cs.length = τ.width → ∀ {off : Nat} {σ : Ty} {y : D σ} {d : List Value}, RC F w σ y d → ∀ {z : D τ}, off = 0 → castD y = some z →
      RC F w τ z (cs.take off ++ d ++ cs.drop (off + d.length)) ∧ off + d.length ≤ cs.length := by
    intro τ cs hn off σ y d hy z h0 hz
    obtain ⟨e, rfl⟩ := castD_some hz
    cases e; subst h0
    have := hy.len
    rw [List.drop_eq_nil_of_le (by omega)]
    exact ⟨by simpa using hy, by omega⟩
  induction τ with
  | pr a b iha ihb =>
    intro x cs h off σ y d hy z hz hσ
    have hn := h.len
    simp only [setOff] at hz
    split at hz
    · rename_i h0; exact whole _ hn hy h0.1 hz
    · simp only [RC] at h
      obtain ⟨c, e, rfl, h1, h2⟩ := h
      have l1 := h1.len
      split at hz
      · simp only [Option.map_eq_some_iff] at hz
        obtain ⟨u, hu, rfl⟩ := hz
        obtain ⟨k1, k2⟩ := iha h1 hy hu hσ
        refine ⟨?_, by simp; omega⟩
        simp only [RC]
        refine ⟨_, e, ?_, k1, h2⟩
        rw [List.take_append_of_le_length (by omega), List.drop_append_of_le_length (by omega)]
        simp
      · rename_i hlt
        simp only [Option.map_eq_some_iff] at hz
        obtain ⟨u, hu, rfl⟩ := hz
        obtain ⟨k1, k2⟩ := ihb h2 hy hu hσ
        refine ⟨?_, by simp; omega⟩
        simp only [RC]
        refine ⟨c, _, ?_, h1, k1⟩
        rw [← l1] at *
        rw [List.take_append, List.take_of_length_le (by omega), List.drop_append, List.drop_eq_nil_of_le (by omega)]
        simp only [List.nil_append, List.append_assoc]
        congr 4
        omega
  | int k => intro x cs h off σ y d hy z hz hσ; simp only [setOff] at hz; split at hz <;> first | exact whole _ h.len hy ‹_› hz | cases hz
  | bool => intro x cs h off σ y d hy z hz hσ; simp only [setOff] at hz; split at hz <;> first | exact whole _ h.len hy ‹_› hz | cases hz
  | str => intro x cs h off σ y d hy z hz hσ; simp only [setOff] at hz; split at hz <;> first | exact whole _ h.len hy ‹_› hz | cases hz
  | err => intro x cs h off σ y d hy z hz hσ; simp only [setOff] at hz; split at hz <;> first | exact whole _ h.len hy ‹_› hz | cases hz
  | unit => intro x cs h off σ y d hy z hz hσ; simp only [setOff] at hz; split at hz <;> first | exact whole _ h.len hy ‹_› hz | cases hz
  | sl e => intro x cs h off σ y d hy z hz hσ; simp only [setOff] at hz; split at hz <;> first | exact whole _ h.len hy ‹_› hz | cases hz
  | q => intro x cs h off σ y d hy z hz hσ; simp only [setOff] at hz; split at hz <;> first | exact whole _ h.len hy ‹_› hz | cases hz

/-- What a typed operand's cells are, once its own rows are frozen. -/
theorem typed_at {F' : Nat → Prop} {mf : Hp} (h : Mem G w0 Ob A B F μ m w) (h' : Mem G w0 Ob A B F' μ mf w) (sub : ∀ b, F b → F' b) {v : V} {cv : Value} (hr : R F B w μ v cv)
    (hfz : ∀ b ∈ arrs v, ∀ σ l, m.at b = some (.rows σ l) → mf.at b = some (.fz σ l)) {τ : Ty} {x : D τ} (hl : typed m τ v = some x) : RC F' w τ x cv.cells.toList := by
  have hin : In F' μ m (arrs v) := by
    intro b hb σ l q ad e0 e1 e2
    obtain ⟨q', e3, _, _, _, _, k⟩ := h'.box b _ (hfz b hb σ l e0)
    rw [e1] at e3; cases e3
    exact (k ad e2).2.1
  have kk := typed_ok h sub hr hin hl
  have wrap : RC F' w τ x [cv] → (∀ c, cv = .agg c → False) → RC F' w τ x cv.cells.toList := fun h1 h2 => by
    have : cv.cells.toList = [cv] := by cases cv <;> first | rfl | exact absurd rfl (fun e => h2 _ e)
    rw [this]; exact h1
  cases ha : τ.agg with
  | true => obtain ⟨cs, rfl, k⟩ := kk.1 ha; exact k
  | false =>
    have k := kk.2 ha
    refine wrap k (fun c e => ?_)
    have := k.one cv (by simp)
    subst e; cases this

theorem typed_cells (h : Mem G w0 Ob A B F μ m w) {v : V} {cv : Value} (hr : R F B w μ v cv) {τ : Ty} {x : D τ} (hl : typed m τ v = some x) :
    ∃ F', Mem G w0 Ob A B F' μ (frz m v) w ∧ Tr B F F' μ μ w w ∧ RC F' w τ x cv.cells.toList := by
  obtain ⟨F', h', tr⟩ := h.frz v
  refine ⟨F', h', tr, typed_at h h' tr.sub hr (fun b hb σ l e0 => ?_) hl⟩
  rw [frz_at, if_pos hb, e0]; rfl

theorem frzF_at (vs : List V) : ∀ (m : Hp) (c : Nat), Hp.at (vs.foldl frz m) c = if ∃ v ∈ vs, c ∈ arrs v then toFz (m.at c) else m.at c := by
  induction vs with
  | nil => intro m c; simp
  | cons v r ih =>
    intro m c
    rw [List.foldl_cons, ih, frz_at]
    by_cases h1 : c ∈ arrs v <;> by_cases h2 : ∃ u ∈ r, c ∈ arrs u
    · simp [h1, h2, toFz_toFz]
    · have : ¬ ∃ u, u ∈ r ∧ c ∈ arrs u := h2
      simp [h1, this]
    · have : ∃ u, u ∈ r ∧ c ∈ arrs u := h2
      simp [h1, this]
    · have : ¬ ∃ u, u ∈ r ∧ c ∈ arrs u := h2
      simp [h1, this]

/-- With no boxes at all. -/
theorem Mem.bare (h : Mem G w0 Ob A B F μ m w) : Mem G w0 Ob A B F μ [] w :=
  ⟨h.ext, fun b x hx => by simp [Hp.at, look] at hx, fun b x q ad hx => by simp [Hp.at, look] at hx, fun b b' x x' q q' ad ad' hx => by simp [Hp.at, look] at hx, h.fz, h.bz, h.glob⟩

theorem arrs_scal (v : Value) : arrs1 (scal v) = [] := by unfold scal; split <;> rfl
end
end Go.E

set_option linter.unusedVariables false
namespace Go.E
open Go Go.RowKit

section
variable {P : Program} {E : Env} {G : List (Nat × List V)} {w0 : World} {Ob A B F : Nat → Prop} {μ : Mu} {m : Hp} {w : World} {base : Nat} {s : St} {a : Act} {v : V} {m' : Hp}

theorem exec_store {o : Oper} {t : Nat} {x y : Operand} (ho : o.op = .store t x y) {p : Addr} {w' : World} (hx : a.eval x = .pointer (some p)) (hr : (storeVar t p (a.eval y)).run P w = .ok () w') : (execOp a.eval o).run P w = .ok .skip w' := by
  unfold execOp; rw [ho]; simp [hx, Instr.storeAt, Instr.sureAddr, hr]

theorem RowsAt.set {τ : Ty} {r : List (D τ)} {ad : Addr} (h : RowsAt F w τ r ad) {cap : Nat} (hst : Stor w ad.block ad.off (cap * τ.width)) (hcap : r.length ≤ cap) {i : Nat} {z z' : D τ} (hi : r[i]? = some z) {c us : List Value} {off : Nat}
    (hc : RC F w τ z c) (hcc : CellsAt w ad.block (ad.off + i * τ.width) c) (hz : RC F w τ z' (c.take off ++ us ++ c.drop (off + us.length))) (hn : off + us.length ≤ c.length)
    (hF : Keep F w (w.setCells ad.block (ad.off + (i * τ.width + off)) us)) :
    RowsAt F (w.setCells ad.block (ad.off + (i * τ.width + off)) us) τ (r.set i z') ad := fun j x hj => by
  have hlen := hc.len
  have hilt : i < r.length := (List.getElem?_eq_some_iff.1 hi).1
  have hmul : i * τ.width + τ.width ≤ cap * τ.width := by rw [← Nat.succ_mul]; exact Nat.mul_le_mul_right _ (by omega)
  by_cases hji : j = i
  · subst hji
    rw [List.getElem?_set_self hilt] at hj
    cases hj
    refine ⟨_, hz.mono (fun _ y => y) hF, ?_⟩
    have hs : Stor w ad.block (ad.off + j * τ.width) c.length := fun k hk => by
      have := hst (j * τ.width + k) (by omega)
      rwa [← Nat.add_assoc] at this
    have := cells_splice hcc hs hn
    rwa [Nat.add_assoc] at this
  · rw [List.getElem?_set_ne (fun e => hji e.symm)] at hj
    obtain ⟨d, k1, k2⟩ := h j x hj
    refine ⟨d, k1.mono (fun _ y => y) hF, fun k cv hk => ?_⟩
    have hdl := k1.len
    have hkl : k < τ.width := by rw [← hdl]; exact (List.getElem?_eq_some_iff.1 hk).1
    rw [World.cell?_setCells_out _ _ _ _ _ (fun _ _ => ?_)]
    · exact k2 k cv hk
    · simp only
      rcases Nat.lt_or_gt_of_ne hji with hlt | hgt
      · left
        have : j * τ.width + τ.width ≤ i * τ.width := by rw [← Nat.succ_mul]; exact Nat.mul_le_mul_right _ hlt
        omega
      · right
        have : i * τ.width + τ.width ≤ j * τ.width := by rw [← Nat.succ_mul]; exact Nat.mul_le_mul_right _ hgt
        omega

theorem good_store (h : Pre P E w0 Ob A B F μ s a w) {o : Oper} {t : Nat} {x y : Operand} (ho : o.op = .store t x y) (hf : opF E o.op base s = some (v, m')) : Good P E.G w0 Ob A B F μ base o a w v m' := by
  rw [ho] at hf; simp only [opF, opK] at hf
  obtain ⟨l, hl0, hf⟩ := wT_some hf
  have hl := h.env.lay t l hl0
  have hx := h.ev x
  split at hf
  · rename_i b off e
    split at hf
    rotate_left
    · cases hf
    rename_i cs hb
    split at hf
    rotate_left
    · cases hf
    rename_i hc
    obtain ⟨c1, c2, c3⟩ := hc
    obtain ⟨rfl, rfl⟩ := ok_pair hf
    rw [e] at hx; simp only [R] at hx
    obtain ⟨q0, e1, p, e2, e3⟩ := hx
    obtain ⟨q, e4, ad, vs, k1, k2, k3, k4, k5⟩ := h.mem.box b _ hb
    rw [e1] at e4; cases e4
    obtain ⟨ad', e5, rfl⟩ := e3 q rfl
    rw [k1] at e5; cases e5
    have hcl := RL.len k3
    have hne : opnd E s y ≠ .undef := fun e => by rw [e] at c3; simp [V.cells, oneV] at c3
    have hu := cells_ok (h.ev y) hne
    have hul := RL.len hu
    have hone := oneL_ok hu c3
    obtain ⟨mem, tr⟩ := h.mem.write hb rfl e1 k1 (ad.off + off) (a.eval y).cells.toList
      (.cs (cs.take off ++ (opnd E s y).cells ++ cs.drop (off + l.ty.width))) rfl (by
        have tr := Tr.setCells h.mem (h.mem.own b _ q ad hb rfl e1 k1).1 (h.mem.own b _ q ad hb rfl e1 k1).2.1 (ad.off + off) (a.eval y).cells.toList
        refine ⟨ad, vs.take off ++ (a.eval y).cells.toList ++ vs.drop (off + (a.eval y).cells.toList.length), k1, k2, ?_, ?_, ?_⟩
        · refine tr.RL ((RL.app (k3.take off) hu).app ?_)
          rw [← hul, c1]; exact k3.drop _
        · exact cells_splice k4 (hcl ▸ k5) (by omega)
        · have : (cs.take off ++ (opnd E s y).cells ++ cs.drop (off + l.ty.width)).length = cs.length := by simp; omega
          rw [this]; exact k5.set _ _ _)
    refine Good.skip (exec_store ho e2 ?_) ⟨mem, tr, fun _ _ h => h⟩
    exact run_storeVar hl (by rw [← Array.length_toList]; omega) (fun k hk => by have := k5 (off + k) (by omega); rwa [← Nat.add_assoc] at this) hone
  · rename_i b i off e
    split at hf
    rotate_left
    · cases hf
    rename_i τ r hb
    split at hf
    rotate_left
    · cases hf
    rename_i u hu
    split at hf
    · cases hf
    rename_i hna
    obtain ⟨z, hz, hf⟩ := bindO_some hf
    split at hf
    rotate_left
    · cases hf
    rename_i z' hz'
    obtain ⟨rfl, rfl⟩ := ok_pair hf
    rw [e] at hx; simp only [R] at hx
    obtain ⟨q0, e1, p, e2, e3⟩ := hx
    obtain ⟨F', h', tr0, hRC⟩ := typed_cells h.mem (h.ev y) hu
    have hb' : (frz s.m (opnd E s y)).at b = some (.rows τ r) := by
      rw [frz_at, if_neg]; · exact hb
      intro hm; exact hna (by simp [namesArr, hm])
    obtain ⟨q, e4, k1, k2, k3, k4, k5⟩ := h'.box b _ hb'
    rw [e1] at e4; cases e4
    obtain ⟨ad, e5, rfl⟩ := e3 q rfl
    obtain ⟨g1, g2, g3⟩ := k5 ad e5
    obtain ⟨h0, hz⟩ := atL_some hz
    obtain ⟨c, j1, j2⟩ := g2 _ z hz
    obtain ⟨s1, s2⟩ := setOff_ok τ j1 hRC hz' hl.notUnit
    have own := h'.own b _ q ad hb' rfl e1 e5
    have trw := Tr.setCells h' own.1 own.2.1 (ad.off + (i.toNat * τ.width + off)) (a.eval y).cells.toList
    have hilt : i.toNat < r.length := (List.getElem?_eq_some_iff.1 hz).1
    have hcw := j1.len
    have hmul : i.toNat * τ.width + τ.width ≤ q.cap * τ.width := by rw [← Nat.succ_mul]; exact Nat.mul_le_mul_right _ (by omega)
    obtain ⟨mem, tr⟩ := h'.write hb' rfl e1 e5 (ad.off + (i.toNat * τ.width + off)) (a.eval y).cells.toList (.rows τ (setL r i z')) rfl (by
      refine ⟨by rw [k1]; simp [setL], k2, k3, k4, fun ad' e' => ?_⟩
      rw [e5] at e'; cases e'
      exact ⟨g1, g2.set g3 (by omega) hz j1 j2 s1 s2 trw.keep, g3.set _ _ _⟩)
    refine Good.skip (exec_store ho e2 ?_) ⟨mem, tr0.trans tr, fun _ _ h => h⟩
    rw [k3]
    refine run_storeVar hl (by rw [← Array.length_toList]; exact hRC.len) (fun k hk => ?_) hRC.one
    have hd := hRC.len
    have := g3 (i.toNat * τ.width + off + k) (by omega)
    rwa [show ad.off + (i.toNat * τ.width + off) + k = ad.off + (i.toNat * τ.width + off + k) by omega]
  · cases hf
end
end Go.E

set_option linter.unusedVariables false
namespace Go.E
open Go Go.RowKit

section
variable {P : Program} {E : Env} {G : List (Nat × List V)} {w0 : World} {Ob A B F : Nat → Prop} {μ : Mu} {m : Hp} {w : World} {base : Nat} {s : St} {a : Act} {v : V} {m' : Hp}

theorem foldl_set (off : Nat) : ∀ (us : List Value) (k : Nat) (cells : Array Value), off + k + us.length ≤ cells.size →
    ((us.zipIdx k).foldl (fun cs p => cs.setIfInBounds (off + p.2) p.1) cells).toList = cells.toList.take (off + k) ++ us ++ cells.toList.drop (off + k + us.length)
  | [], k, cells, h => by simp
  | u :: us, k, cells, h => by
    simp only [List.length_cons] at h
    rw [List.zipIdx_cons, List.foldl_cons, foldl_set off us (k + 1) _ (by simp; omega)]
    have hl : cells.toList.length = cells.size := Array.length_toList
    have e : (cells.setIfInBounds (off + k) u).toList = cells.toList.take (off + k) ++ u :: cells.toList.drop (off + k + 1) := by
      rw [Array.toList_setIfInBounds, List.set_eq_take_append_cons_drop, if_pos (by omega)]
    simp only [e, List.length_cons]
    have l1 : (cells.toList.take (off + k)).length = off + k := by simp; omega
    have t1 : (cells.toList.take (off + k) ++ u :: cells.toList.drop (off + k + 1)).take (off + (k + 1)) = cells.toList.take (off + k) ++ [u] := by
      rw [List.take_append, List.take_of_length_le (by omega), l1, show off + (k + 1) - (off + k) = 1 by omega]; rfl
    have t2 : (cells.toList.take (off + k) ++ u :: cells.toList.drop (off + k + 1)).drop (off + (k + 1) + us.length) = cells.toList.drop (off + k + (us.length + 1)) := by
      rw [List.drop_append, List.drop_eq_nil_of_le (by omega), l1, show off + (k + 1) + us.length - (off + k) = us.length + 1 by omega, List.drop_succ_cons, List.drop_drop, List.nil_append]
      congr 1; omega
    rw [t1, t2]; simp

theorem fill_step {place : Nat → Option (Nat × Nat)} {cells : Array Value} {i off size : Nat} {v : Value} {rest : List (Nat × Value)} (hp : place i = some (off, size)) (hs : v.cells.size = size) (ho : off + size ≤ cells.size) :
    ∃ cells', Instr.fill place cells ((i, v) :: rest) = Instr.fill place cells' rest ∧ cells'.toList = cells.toList.take off ++ v.cells.toList ++ cells.toList.drop (off + size) ∧ cells'.size = cells.size := by
  have key : (v.cells.zipIdx.foldl (fun cs (c, j) => cs.setIfInBounds (off + j) c) cells).toList = cells.toList.take off ++ v.cells.toList ++ cells.toList.drop (off + size) := by
    have := foldl_set off v.cells.toList 0 cells (by simp; omega)
    rw [← Array.foldl_toList, Array.toList_zipIdx]
    simp only [Nat.add_zero, Array.length_toList, hs] at this
    rw [← this]
  refine ⟨v.cells.zipIdx.foldl (fun cs (c, j) => cs.setIfInBounds (off + j) c) cells, ?_, key, ?_⟩
  · simp only [Instr.fill, hp]
    rw [if_neg]
    simp [hs]; omega
  · rw [← Array.length_toList, key]; simp; omega

theorem fill_agg (hE : EnvOk P E) (hev : ∀ x, R F B w μ (opnd E s x) (a.eval x)) {fields : List Field} {places : List (Nat × Nat)}
    (hpl : ∀ (i : Nat) f lu, fields[i]? = some f → look E.L f.type = some lu → places[i]? = some (f.offset, lu.ty.width)) :
    ∀ (parts : List (Nat × Operand)) (cs : List V) (cells : Array Value), RL F B w μ cs cells.toList → ∀ cs', fillAgg E (fields.map fun f => (f.offset, f.type)) cs (partsOf E s parts) = some cs' →
      ∃ cells', Instr.fill (places.toArray[·]?) cells (parts.map fun p => (p.1, a.eval p.2)) = some cells' ∧ RL F B w μ cs' cells'.toList
  | [], cs, cells, hr, cs', hf => by
    simp only [partsOf, List.map_nil, fillAgg, Option.some.injEq] at hf
    subst hf
    exact ⟨cells, rfl, hr⟩
  | (i, x) :: parts, cs, cells, hr, cs', hf => by
    simp only [partsOf, List.map_cons, fillAgg] at hf
    split at hf
    rotate_left
    · cases hf
    rename_i off u hi
    split at hf
    rotate_left
    · cases hf
    rename_i lu hlu
    split at hf
    rotate_left
    · cases hf
    rename_i hc
    obtain ⟨c1, c2, c3⟩ := hc
    simp only [List.getElem?_map, Option.map_eq_some_iff] at hi
    obtain ⟨f, hf1, hf2⟩ := hi
    cases hf2
    have hne : opnd E s x ≠ .undef := fun e => by rw [e] at c3; simp [V.cells, oneV] at c3
    have hu := cells_ok (hev x) hne
    have hul := RL.len hu
    have hcl := RL.len hr
    obtain ⟨cells', k1, k2, k3⟩ := fill_step (place := (places.toArray[·]?)) (cells := cells) (i := i) (v := a.eval x) (rest := parts.map fun p => (p.1, a.eval p.2)) (off := f.offset) (size := lu.ty.width)
      (by simpa using hpl i f lu hf1 hlu) (by rw [← Array.length_toList]; omega) (by rw [← Array.length_toList]; omega)
    rw [List.map_cons, k1]
    refine fill_agg hE hev hpl parts _ cells' ?_ cs' hf
    rw [k2]
    exact ((hr.take _).app hu).app (hr.drop _)

theorem mapM_places (hE : EnvOk P E) : ∀ (fields : List Field), (∀ f ∈ fields, ∃ lu, look E.L f.type = some lu) →
    ∃ places, (fields.mapM fun f => (P.info? f.type).map fun i => (f.offset, i.size)) = some places ∧ ∀ (i : Nat) f lu, fields[i]? = some f → look E.L f.type = some lu → places[i]? = some (f.offset, lu.ty.width)
  | [], _ => ⟨[], by simp, fun i f lu h => by simp at h⟩
  | f :: fields, h => by
    obtain ⟨lu, hlu⟩ := h f (by simp)
    obtain ⟨places, k1, k2⟩ := mapM_places hE fields (fun g hg => h g (by simp [hg]))
    obtain ⟨i, h1, h2, _⟩ := (hE.lay _ lu hlu).size
    refine ⟨(f.offset, lu.ty.width) :: places, by simp [List.mapM_cons, h1, h2, k1], fun j g lv hj hv => ?_⟩
    cases j with
    | zero => simp at hj; subst hj; rw [hlu] at hv; cases hv; rfl
    | succ j => simpa using k2 j g lv (by simpa using hj) hv

theorem good_build (h : Pre P E w0 Ob A B F μ s a w) {o : Oper} {t : Nat} {parts : Array (Nat × Operand)} (ho : o.op = .build t parts) (hf : opF E o.op base s = some (v, m')) : Good P E.G w0 Ob A B F μ base o a w v m' := by
  rw [ho] at hf; simp only [opF, opK] at hf
  obtain ⟨l, hl, hf⟩ := wT_some hf
  have lay := h.env.lay t l hl
  have hk := lay.kind
  split at hf
  rotate_left
  · cases hf
  rename_i fs e
  rw [e] at hk
  obtain ⟨fields, hu, rfl, hfl, _⟩ := hk
  split at hf
  rotate_left
  · cases hf
  rename_i cs' hcs
  obtain ⟨rfl, rfl⟩ := ok_pair hf
  obtain ⟨i, h1, h2, _, z, h3, h4⟩ := lay.size
  obtain ⟨places, p1, p2⟩ := mapM_places h.env fields.toList (fun f hf => let ⟨lu, k, _⟩ := (hfl f hf).2; ⟨lu, k⟩)
  obtain ⟨cells', k1, k2⟩ := fill_agg h.env h.ev p2 parts.toList l.zero z.cells (h4 ▸ scalL_ok F B w μ _) cs' hcs
  refine Good.same h (cv := .agg cells') ?_ (by simp only [R]; exact ⟨_, rfl, k2⟩)
  unfold execOp; rw [ho]
  have := run_build (P := P) w t (parts.map fun p => (p.1, a.eval p.2)) cells' (by unfold Program.built; simp only [h1, hu, h3, p1]; simpa using k1)
  simp only [Sem.run_bind, this, Result.andThen_ok, Sem.run_pure]
end
end Go.E

set_option linter.unusedVariables false
namespace Go.E
open Go Go.RowKit

section
variable {P : Program} {E : Env} {G : List (Nat × List V)} {w0 : World} {Ob A B F : Nat → Prop} {μ : Mu} {m : Hp} {w : World} {base : Nat} {s : St} {a : Act} {v : V} {m' : Hp}

/-- The zero of a type, as a typed value. -/
theorem zero_ok (h : Mem G w0 Ob A B F μ m w) {t : Nat} {l : TL} (hl : Lay P E.L t l) {z : D l.ty} (hz : asm [] l.ty l.zero = some (z, [])) : ∃ zv, zv.cells.toList.map scal = l.zero ∧ zv.cells.size = l.ty.width ∧ (∀ w, (zeroValue t).run P w = .ok zv w) ∧ RC F w l.ty z zv.cells.toList := by
  obtain ⟨zv, h1, h2, h3⟩ := hl.run_zero
  refine ⟨zv, h1, h2, h3, ?_⟩
  have hin : In F μ [] (l.zero.flatMap arrs1) := by
    rw [← h1]
    intro b hb
    simp only [List.mem_flatMap, List.mem_map] at hb
    obtain ⟨v, ⟨c, _, rfl⟩, hb⟩ := hb
    rw [arrs_scal] at hb; cases hb
  obtain ⟨v1, v2, k1, k2, k3, _⟩ := asm_ok h.bare (fun _ x => x) l.ty (h1 ▸ scalL_ok F B w μ zv.cells.toList) hin hz
  have : v2 = [] := by cases v2 with
    | nil => rfl
    | cons _ _ => simp [RL] at k3
  subst this
  rw [List.append_nil] at k1
  rw [k1]; exact k2

theorem zeros_row (z : Array Value) (n i wd : Nat) (hz : z.size = wd) (hi : (i + 1) * wd ≤ n) (hw : wd ≠ 0) : ((((Array.range n).map (z[· % z.size]!)).toList.drop (i * wd)).take wd) = z.toList := by
  apply List.ext_getElem?
  intro j
  rw [List.getElem?_take]
  split
  · rename_i hj
    have h1 : i * wd + j < n := by rw [Nat.succ_mul] at hi; omega
    rw [List.getElem?_drop]
    have h2 : (i * wd + j) % wd = j := by rw [Nat.mul_comm, Nat.mul_add_mod, Nat.mod_eq_of_lt hj]
    simp [h1, hz, h2]
    rw [Array.getElem!_eq_getD, Array.getD_eq_getD_getElem?]
    simp [hz ▸ hj]
  · rename_i hj
    rw [List.getElem?_eq_none (by simp [hz]; omega)]

theorem RowsIn.zeros {τ : Ty} {x : D τ} {z : Array Value} {n len : Nat} (hz : RC F w τ x z.toList) (hn : len * τ.width ≤ n) (hw : τ.width ≠ 0) : RowsIn F w τ (List.replicate len x) ((Array.range n).map (z[· % z.size]!)).toList := fun i y hy => by
  rw [List.getElem?_replicate] at hy
  split at hy
  · rename_i hi
    cases hy
    have hs : z.size = τ.width := by rw [← Array.length_toList]; exact hz.len
    rw [zeros_row z n i τ.width hs (Nat.le_trans (Nat.mul_le_mul_right _ (by omega)) hn) hw]
    exact hz
  · cases hy

theorem RowsIn.set {τ : Ty} {l : List (D τ)} {c us : List Value} {i : Nat} {x : D τ} (h : RowsIn F w τ l c) (hx : RC F w τ x us) (hi : i < l.length) (hc : l.length * τ.width ≤ c.length) :
    RowsIn F w τ (l.set i x) (c.take (i * τ.width) ++ us ++ c.drop (i * τ.width + τ.width)) := fun j y hy => by
  have hl := hx.len
  have hic : i * τ.width + τ.width ≤ c.length := by rw [← Nat.succ_mul]; exact Nat.le_trans (Nat.mul_le_mul_right _ hi) hc
  have hlt : (c.take (i * τ.width)).length = i * τ.width := by simp; omega
  by_cases hji : j = i
  · subst hji
    rw [List.getElem?_set_self hi] at hy; cases hy
    rw [List.append_assoc, List.drop_append, List.drop_eq_nil_of_le (by omega), hlt, Nat.sub_self, List.drop_zero, List.nil_append, List.take_append_of_le_length (by omega), List.take_of_length_le (by omega)]
    exact hx
  · rw [List.getElem?_set_ne (fun e => hji e.symm)] at hy
    have k := h j y hy
    have hjl : j < l.length := (List.getElem?_eq_some_iff.1 hy).1
    have hjc : j * τ.width + τ.width ≤ c.length := by rw [← Nat.succ_mul]; exact Nat.le_trans (Nat.mul_le_mul_right _ hjl) hc
    have e : ((c.take (i * τ.width) ++ us ++ c.drop (i * τ.width + τ.width)).drop (j * τ.width)).take τ.width = (c.drop (j * τ.width)).take τ.width := by
      apply List.ext_getElem?
      intro k
      rw [List.getElem?_take, List.getElem?_take]
      split
      · rename_i hk
        rw [List.getElem?_drop, List.getElem?_drop]
        rcases Nat.lt_or_gt_of_ne hji with hlt' | hgt
        · have : j * τ.width + τ.width ≤ i * τ.width := by rw [← Nat.succ_mul]; exact Nat.mul_le_mul_right _ hlt'
          rw [List.append_assoc, List.getElem?_append_left (by omega), List.getElem?_take, if_pos (by omega)]
        · have : i * τ.width + τ.width ≤ j * τ.width := by rw [← Nat.succ_mul]; exact Nat.mul_le_mul_right _ hgt
          rw [List.getElem?_append_right (by simp; omega), List.getElem?_drop]
          congr 1
          simp only [List.length_append, hlt, hl]; omega
      · rfl
    rw [e]; exact k

theorem fill_rows {F' : Nat → Prop} {mf : Hp} (h : Mem G w0 Ob A B F μ s.m w) (h' : Mem G w0 Ob A B F' μ mf w) (sub : ∀ b, F b → F' b) (hev : ∀ x, R F B w μ (opnd E s x) (a.eval x)) {τ : Ty} (hw : τ.width ≠ 0) :
    ∀ (parts : List (Nat × Operand)) (hfz : ∀ p ∈ parts, ∀ b ∈ arrs (opnd E s p.2), ∀ σ l, s.m.at b = some (.rows σ l) → mf.at b = some (.fz σ l)) (rows : List (D τ)) (cells : Array Value), RowsIn F' w τ rows cells.toList → cells.size = rows.length * τ.width →
      ∀ rows', fillRows s.m τ rows (partsOf E s parts) = some rows' → ∃ cells', Instr.fill (fun i => some (i * τ.width, τ.width)) cells (parts.map fun p => (p.1, a.eval p.2)) = some cells' ∧ RowsIn F' w τ rows' cells'.toList ∧ cells'.size = rows'.length * τ.width ∧ rows'.length = rows.length
  | [], _, rows, cells, hr, hs, rows', hf => by
    simp only [partsOf, List.map_nil, fillRows, Option.some.injEq] at hf
    subst hf
    exact ⟨cells, rfl, hr, hs, rfl⟩
  | (i, x) :: parts, hfz, rows, cells, hr, hs, rows', hf => by
    simp only [partsOf, List.map_cons, fillRows] at hf
    split at hf
    rotate_left
    · cases hf
    rename_i y hy
    split at hf
    rotate_left
    · cases hf
    rename_i hi
    have k := typed_at h h' sub (hev x) (hfz (i, x) (by simp)) hy
    have kl := k.len
    have hic : i * τ.width + τ.width ≤ cells.size := by rw [hs, ← Nat.succ_mul]; exact Nat.mul_le_mul_right _ hi
    obtain ⟨cells', k1, k2, k3⟩ := fill_step (place := fun i => some (i * τ.width, τ.width)) (cells := cells) (i := i) (v := a.eval x) (rest := parts.map fun p => (p.1, a.eval p.2)) rfl (by rw [← Array.length_toList]; exact kl) hic
    rw [List.map_cons, k1]
    obtain ⟨cells2, j1, j2, j3, j4⟩ := fill_rows h h' sub hev hw parts (fun p hp => hfz p (by simp [hp])) (rows.set i y) cells' (by rw [k2]; exact hr.set k hi (Nat.le_of_eq (by rw [← hs]; simp))) (by rw [k3, hs]; simp) rows' hf
    exact ⟨cells2, j1, j2, j3, by simpa using j4⟩

theorem good_buildSlice (h : Pre P E w0 Ob A B F μ s a w) (hb : Fresh μ base) {o : Oper} {t len : Nat} {parts : Array (Nat × Operand)} (ho : o.op = .buildSlice t len parts) (hf : opF E o.op base s = some (v, m')) : Good P E.G w0 Ob A B F μ base o a w v m' := by
  rw [ho] at hf; simp only [opF, opK] at hf
  obtain ⟨l, e, le, hl, hk, hle, hf⟩ := wE_some hf
  have hu := (h.env.lay t l hl).kind
  rw [hk] at hu
  replace hu := hu.1
  have lay := h.env.lay e le hle
  split at hf
  · cases hf
  rename_i hsm
  obtain ⟨z, hz, hf⟩ := zeroD_some hf
  split at hf
  rotate_left
  · cases hf
  rename_i rows hrows
  obtain ⟨rfl, rfl⟩ := ok_pair hf
  obtain ⟨F', h', tr⟩ := Mem.frzF ((partsOf E s parts.toList).map (·.2)) h.mem
  obtain ⟨zv, z1, z2, z3, z4⟩ := zero_ok h' lay hz
  obtain ⟨i, i1, i2, _, zi, i3, i4⟩ := lay.size
  have hzi : zi = zv := by
    have := z3 w
    simp [zeroValue, typeInfo, i1, i3] at this
    exact this
  subst hzi
  have hr0 : RowsIn F' w le.ty (List.replicate len z) ((Array.range (len * le.ty.width)).map (zi.cells[· % zi.cells.size]!)).toList := RowsIn.zeros z4 (Nat.le_refl _) lay.pos
  obtain ⟨cells', k1, k2, k3, k4⟩ := fill_rows (a := a) h.mem h' tr.sub h.ev lay.pos parts.toList (fun p hp b hb' σ r e0 => by
      rw [frzF_at, if_pos, e0]; · rfl
      exact ⟨_, List.mem_map.2 ⟨(p.1, opnd E s p.2), List.mem_map.2 ⟨p, hp, rfl⟩, rfl⟩, hb'⟩) _ _ hr0 (by simp) rows hrows
  simp only [List.length_replicate] at k4
  obtain ⟨μ', st, r⟩ := newRows h' hb cells' e (0, 0) le.ty rows len (by omega) (by rw [k3, k4]; exact Nat.le_refl _) (fun k hk => by simp) k2
  have st' : Step1 E.G w0 Ob A B F μ w base F' μ' ((base, some (.rows le.ty rows)) :: ((partsOf E s parts.toList).map (·.2)).foldl frz s.m) (w.alloc (.cells cells' e)) := ⟨st.mem, tr.trans st.tr, st.loc⟩
  rw [k4] at r
  refine Good.value ?_ st' r
  unfold execOp; rw [ho]
  have hfill : Instr.fill (fun i => some (i * le.ty.width, le.ty.width)) ((Array.range (len * le.ty.width)).map (zi.cells[· % zi.cells.size]!)) (parts.map fun p => (p.1, a.eval p.2)).toList = some cells' := by simpa using k1
  by_cases h0 : len * le.ty.width = 0
  · have hl0 : len = 0 := by
      rcases Nat.mul_eq_zero.1 h0 with h | h
      · exact h
      · exact absurd h lay.pos
    subst hl0
    rw [Nat.zero_mul] at hfill
    have e0 : (Array.range 0).map (fun x => zi.cells[x % zi.cells.size]!) = #[] := by rw [Array.range_zero', Array.map_empty]
    rw [e0] at hfill
    have hb' : (Instr.buildSlice t 0 (parts.map fun p => (p.1, a.eval p.2))).run P w = .ok (.slice (some ⟨w.heap.size, 0, none⟩) 0 0) (w.alloc (.cells cells' e)) := by
      unfold Instr.buildSlice
      simp only [Sem.run_bind, run_underlying hu, Result.andThen_ok, lay.run_size, Nat.zero_mul]
      simp only [if_neg (by omega : ¬ (0 > 2 ^ 24)), if_true, Sem.run_bind, Sem.run_pure, Result.andThen_ok]
      have e1 : (Array.range 0).map (fun x => (#[] : Array Value)[x % (#[] : Array Value).size]!) = #[] := by rw [Array.range_zero', Array.map_empty]
      rw [e1, hfill]
      simp only [Sem.run_bind, run_newRow, Result.andThen_ok, Sem.run_pure]
    simp only [Sem.run_bind, hb', Result.andThen_ok, Sem.run_pure]
  · have := run_buildSlice (P := P) w t e len (parts.map fun p => (p.1, a.eval p.2)) cells' i zi hu i1 i3 (by rw [i2]; omega) (by rw [i2]; exact h0) (by rw [i2]; exact hfill)
    simp only [Sem.run_bind, this, Result.andThen_ok, Sem.run_pure]
end
end Go.E

set_option linter.unusedVariables false
namespace Go.E
open Go Go.RowKit

section
variable {P : Program} {E : Env} {G : List (Nat × List V)} {w0 : World} {Ob A B F : Nat → Prop} {μ : Mu} {m : Hp} {w : World} {base : Nat} {s : St} {a : Act} {v : V} {m' : Hp}

theorem exec_call_builtin {o : Oper} {c : Call} {b : Builtin} (ho : o.op = .call c) (hc : c.callee = .builtin b) {cv : Value} {w' : World}
    (hr : (builtin b c.argTypes o.type (c.args.map fun | .const _ => true | _ => false) (c.args.map a.eval)).run P w = .ok (.value cv) w') : (execOp a.eval o).run P w = .ok (.value cv) w' := by
  unfold execOp; rw [ho]
  simp only [resolve, hc, Sem.run_bind, Sem.run_pure, Result.andThen_ok, invoke]
  exact hr

theorem list_two {α β : Type} {f : α → β} {l : List α} {x y : β} (h : l.map f = [x, y]) : ∃ p q, l = [p, q] ∧ f p = x ∧ f q = y := by
  match l, h with
  | [p, q], h => simp at h; exact ⟨p, q, rfl, h.1, h.2⟩
theorem list_one {α β : Type} {f : α → β} {l : List α} {x : β} (h : l.map f = [x]) : ∃ p, l = [p] ∧ f p = x := by
  match l, h with
  | [p], h => simp at h; exact ⟨p, rfl, h⟩
theorem list_three {α β : Type} {f : α → β} {l : List α} {x y z : β} (h : l.map f = [x, y, z]) : ∃ p q r, l = [p, q, r] ∧ f p = x ∧ f q = y ∧ f r = z := by
  match l, h with
  | [p, q, r], h => simp at h; exact ⟨p, q, r, rfl, h.1, h.2.1, h.2.2⟩

theorem arr_of_list {α : Type} {l : Array α} {x : List α} (h : l.toList = x) : l = x.toArray := by cases l; simp at h; rw [h]

theorem good_len (h : Pre P E w0 Ob A B F μ s a w) {o : Oper} {c : Call} (ho : o.op = .call c) (hc : c.callee = .builtin .len) {x : V} (hx : c.args.toList.map (opnd E s) = [x]) {t : Nat} {ts : List Nat} (hts : c.argTypes.toList = t :: ts)
    (hf : builtinK E .len (t :: ts) [x] base s.m (fun v m => some (v, m)) = some (v, m')) : Good P E.G w0 Ob A B F μ base o a w v m' := by
  obtain ⟨p, hp, rfl⟩ := list_one hx
  have hargs : c.args = #[p] := arr_of_list hp
  simp only [builtinK] at hf
  obtain ⟨l, hl, hf⟩ := wT_some hf
  have hk := (h.env.lay _ l hl).kind
  have hr := h.ev p
  have ht : c.argTypes[0]? = some t := by
    have : c.argTypes.toList[0]? = some t := by rw [hts]; rfl
    simpa using this
  have fin : ∀ {n : Int}, (Builtin.len_ c.argTypes o.type (c.args.map a.eval)).run P w = .ok (goInt n) w → v = .val (.int .i64) n → m' = s.m → Good P E.G w0 Ob A B F μ base o a w v m' := by
    intro n e1 e2 e3
    subst e2 e3
    exact Good.same h (cv := goInt n) (exec_call_builtin ho hc (by simp only [builtin, Sem.run_bind, e1, Result.andThen_ok, Sem.run_pure])) (mk_int _ _)
  have e0 : (c.args.map a.eval)[0]? = some (a.eval p) := by rw [hargs]; simp
  split at hf
  · rename_i e; rw [e] at hk
    split at hf
    · rename_i b e1
      obtain ⟨rfl, rfl⟩ := ok_pair hf
      have ex := R_str (e1 ▸ hr)
      refine fin (n := b.size) ?_ rfl rfl
      simp [Builtin.len_, ht, e0, run_underlying hk.1, ex]
    · cases hf
  · rename_i e' e; rw [e] at hk
    have key : ∀ {ad : Option Addr} {n cap : Nat}, a.eval p = .slice ad n cap → v = .val (.int .i64) (n : Int) → m' = s.m → Good P E.G w0 Ob A B F μ base o a w v m' := by
      intro ad n cap ex e2 e3
      refine fin (n := n) ?_ e2 e3
      simp [Builtin.len_, ht, e0, run_underlying hk.1, ex]
    split at hf
    · rename_i τ r e1
      obtain ⟨rfl, rfl⟩ := ok_pair hf
      rw [e1] at hr
      simp only [R, Ty.agg, RC] at hr
      obtain ⟨ad, cap, e2, _⟩ := hr
      exact key (by simpa using e2) rfl rfl
    · rename_i e1
      obtain ⟨rfl, rfl⟩ := ok_pair hf
      rw [e1] at hr; simp only [R] at hr
      exact key hr rfl rfl
    · rename_i b e1
      rw [e1] at hr; simp only [R] at hr
      obtain ⟨q, e2, p1, p2, p3, e3, e4⟩ := hr
      split at hf
      · rename_i τ r hb
        obtain ⟨rfl, rfl⟩ := ok_pair hf
        obtain ⟨q', e5, k1, _⟩ := h.mem.box b _ hb
        rw [e2] at e5; cases e5
        obtain ⟨rfl, rfl, rfl⟩ := e4 q' rfl
        exact key e3 (by rw [k1]; rfl) rfl
      · rename_i τ r hb
        obtain ⟨rfl, rfl⟩ := ok_pair hf
        obtain ⟨q', e5, k1, _⟩ := h.mem.box b _ hb
        rw [e2] at e5; cases e5
        obtain ⟨rfl, rfl, rfl⟩ := e4 q' rfl
        exact key e3 (by rw [k1]; rfl) rfl
      · cases hf
    · cases hf
  · cases hf
end
end Go.E

set_option linter.unusedVariables false
namespace Go.E
open Go Go.RowKit

section
variable {P : Program} {E : Env} {G : List (Nat × List V)} {w0 : World} {Ob A B F : Nat → Prop} {μ : Mu} {m : Hp} {w : World} {base : Nat} {s : St} {a : Act} {v : V} {m' : Hp}

theorem good_min2 (h : Pre P E w0 Ob A B F μ s a w) {o : Oper} {c : Call} (ho : o.op = .call c) (hc : c.callee = .builtin .min) {k : IntKind} {x y : Int} (hx : c.args.toList.map (opnd E s) = [.val (.int k) x, .val (.int k) y])
    (hv : v = .val (.int k) (minI x y)) (hm : m' = s.m) : Good P E.G w0 Ob A B F μ base o a w v m' := by
  obtain ⟨p, q, hp, e1, e2⟩ := list_two hx
  have h1 := R_int (e1 ▸ h.ev p); have h2 := R_int (e2 ▸ h.ev q)
  have hargs : c.args = #[p, q] := arr_of_list hp
  subst hv hm
  refine Good.same h (cv := .int k (minI x y)) (exec_call_builtin ho hc ?_) (mk_int _ _)
  rw [hargs]
  simp [builtin, Builtin.min_, h1, h2, Builtin.min2, minI]

theorem good_max2 (h : Pre P E w0 Ob A B F μ s a w) {o : Oper} {c : Call} (ho : o.op = .call c) (hc : c.callee = .builtin .max) {k : IntKind} {x y : Int} (hx : c.args.toList.map (opnd E s) = [.val (.int k) x, .val (.int k) y])
    (hv : v = .val (.int k) (maxI x y)) (hm : m' = s.m) : Good P E.G w0 Ob A B F μ base o a w v m' := by
  obtain ⟨p, q, hp, e1, e2⟩ := list_two hx
  have h1 := R_int (e1 ▸ h.ev p); have h2 := R_int (e2 ▸ h.ev q)
  have hargs : c.args = #[p, q] := arr_of_list hp
  subst hv hm
  refine Good.same h (cv := .int k (maxI x y)) (exec_call_builtin ho hc ?_) (mk_int _ _)
  rw [hargs]
  simp [builtin, Builtin.max_, h1, h2, Builtin.max2, maxI]

theorem good_min3 (h : Pre P E w0 Ob A B F μ s a w) {o : Oper} {c : Call} (ho : o.op = .call c) (hc : c.callee = .builtin .min) {k : IntKind} {x y z : Int} (hx : c.args.toList.map (opnd E s) = [.val (.int k) x, .val (.int k) y, .val (.int k) z])
    (hv : v = .val (.int k) (minI (minI x y) z)) (hm : m' = s.m) : Good P E.G w0 Ob A B F μ base o a w v m' := by
  obtain ⟨p, q, r, hp, e1, e2, e3⟩ := list_three hx
  have h1 := R_int (e1 ▸ h.ev p); have h2 := R_int (e2 ▸ h.ev q); have h3 := R_int (e3 ▸ h.ev r)
  have hargs : c.args = #[p, q, r] := arr_of_list hp
  subst hv hm
  refine Good.same h (cv := .int k (minI (minI x y) z)) (exec_call_builtin ho hc ?_) (mk_int _ _)
  rw [hargs]
  simp [builtin, Builtin.min_, h1, h2, h3, Builtin.min2, minI]
  try rfl

theorem exec_convert {o : Oper} {src dst : Nat} {x : Operand} (ho : o.op = .convert src dst x) {cv : Value} {w' : World} (hr : (convert src dst (a.eval x)).run P w = .ok cv w') : (execOp a.eval o).run P w = .ok (.value cv) w' := by
  unfold execOp; rw [ho]; simp only [Sem.run_bind, hr, Result.andThen_ok, Sem.run_pure]

/-- A row of bytes, read. -/
theorem bytes_at {l : List (D (.int .u8))} {ad : Addr} (hs : ad.spot = none) (hr : RowsAt F w (.int .u8) l ad) : (loadCells ad l.length).run P w = .ok (l.map (Value.int .u8)).toArray w := by
  have := run_loadCells_list (P := P) w ad (l.map (Value.int .u8)) (fun j v hj => by
    simp only [List.getElem?_map, Option.map_eq_some_iff] at hj
    obtain ⟨n, hn, rfl⟩ := hj
    obtain ⟨c, k1, k2⟩ := hr j n hn
    simp only [RC] at k1; subst k1
    obtain ⟨b, o, sp⟩ := ad
    simp at hs; subst hs
    rw [addr_add]
    have := k2 0 _ rfl
    simpa [Ty.width] using this)
  simpa using this

theorem strOf_foldl (l : List Int) : l.foldl (fun r n => r.push (UInt8.ofNat n.toNat)) ByteArray.empty = strOf l := by
  have : ∀ (l : List Int) (b : ByteArray), (l.foldl (fun r n => r.push (UInt8.ofNat n.toNat)) b) = ⟨b.data ++ (l.map fun n => UInt8.ofNat n.toNat).toArray⟩ := by
    intro l
    induction l with
    | nil => intro b; simp
    | cons n l ih => intro b; rw [List.foldl_cons, ih]; simp [ByteArray.push]
  rw [this]; simp [strOf, ByteArray.empty, ByteArray.emptyWithCapacity]; rfl

theorem good_convert (h : Pre P E w0 Ob A B F μ s a w) (hb : Fresh μ base) {o : Oper} {src dst : Nat} {x : Operand} (ho : o.op = .convert src dst x) (hf : opF E o.op base s = some (v, m')) : Good P E.G w0 Ob A B F μ base o a w v m' := by
  rw [ho] at hf; simp only [opF, opK] at hf
  obtain ⟨ls, hls, hf⟩ := wT_some hf
  obtain ⟨l, hl, hf⟩ := wT_some hf
  have hx := h.ev x
  have ks := (h.env.lay _ ls hls)
  have kl := (h.env.lay _ l hl).kind
  split at hf
  · rename_i k e; rw [e] at kl
    split at hf
    · rename_i k' n e1
      obtain ⟨rfl, rfl⟩ := ok_pair hf
      have ex := R_int (e1 ▸ hx)
      obtain ⟨d, hd, _⟩ := ks.und
      refine Good.same h (cv := .int k (convI k n)) (exec_convert ho ?_) (mk_int _ _)
      rw [ex]; simp [convert, run_underlying hd, run_underlying kl.1, Conv.intToInt, convI]
    · cases hf
  · rename_i e' e; rw [e] at kl
    obtain ⟨le, hle, hf⟩ := wT_some hf
    have ke := (h.env.lay _ le hle).kind
    split at hf
    · rename_i q1 q2
      have ks := ks.kind
      rw [q1] at ks; rw [q2] at ke
      split at hf
      · rename_i b e1
        obtain ⟨rfl, rfl⟩ := ok_pair hf
        have ex := R_str (e1 ▸ hx)
        have run := run_bytes_of_string (P := P) w src dst e' b ks.1 kl.1 ke.1
        have hge := grownCap_ge w b.size 0 e'
        have hsz : (bytesRow b (grownCap w b.size 0 e')).size = grownCap w b.size 0 e' := by
          unfold bytesRow; simp
          have : b.data.size = b.size := rfl
          omega
        obtain ⟨μ', st, r⟩ := newRows (h.mem.drew) hb (bytesRow b (grownCap w b.size 0 e')) e' ((bytesRow b (grownCap w b.size 0 e')).size, (bytesRow b (grownCap w b.size 0 e')).size + 1) (.int .u8) (rowOfS b) (grownCap w b.size 0 e')
          (by simp [rowOfS]; exact hge) (by simp [Ty.width, hsz]) (fun k hk => by simp [Ty.width] at hk; simp; omega) (fun i n hi => by
            simp only [rowOfS, List.getElem?_map, Option.map_eq_some_iff] at hi
            obtain ⟨c, hc, rfl⟩ := hi
            have hlt : i < b.data.size := by have := (List.getElem?_eq_some_iff.1 hc).1; simpa using this
            have hrow := bytesRow_at b (grownCap w b.size 0 e') i hlt
            have hce : b.data[i] = c := by have := (List.getElem?_eq_some_iff.1 hc).2; simpa using this
            rw [hce] at hrow
            simp only [RC, Ty.width, Nat.mul_one]
            have : ((bytesRow b (grownCap w b.size 0 e')).toList)[i]? = some (.int .u8 (c.toNat : Int)) := by simpa using hrow
            apply List.ext_getElem?
            intro j
            rw [List.getElem?_take]
            cases j with
            | zero => simp [List.getElem?_drop, this]
            | succ j => simp)
        have st' : Step1 E.G w0 Ob A B F μ w base F μ' ((base, some (.rows (.int .u8) (rowOfS b))) :: s.m) _ := ⟨st.mem, ⟨st.tr.sub, st.tr.keep, st.tr.keepB, st.tr.mu⟩, st.loc⟩
        have hlen : (rowOfS b).length = b.size := by simp [rowOfS]
        rw [hlen] at r
        exact Good.value (exec_convert ho (by rw [ex]; exact run)) st' r
      · cases hf
    · cases hf
  · rename_i e; rw [e] at kl
    split at hf
    · rename_i e' q1
      have ks := ks.kind
      rw [q1] at ks
      obtain ⟨le, hle, hf⟩ := wT_some hf
      have ke := (h.env.lay _ le hle).kind
      split at hf
      · rename_i q2; rw [q2] at ke
        split at hf
        · rename_i r hr
          obtain ⟨rfl, rfl⟩ := ok_pair hf
          obtain ⟨ad, cap, sl⟩ := rowsOf_ok (X := fun _ => True) h.mem (fun _ _ => trivial) hx (fun _ _ _ _ _ _ _ _ _ => trivial) hr
          refine Good.same h (cv := .string (strOf r)) (exec_convert ho ?_) (mk_str _)
          rw [sl.val, run_convert_bytes_string w src dst e' ad r.length cap ks.1 ke.1 kl.1]
          cases ad with
          | none =>
            have h0 := sl.nil rfl; have h1 := sl.le
            have : r = [] := List.length_eq_zero_iff.1 (by omega)
            subst this
            simp [Conv.bytesToString, strOf]
            first | done | rfl
          | some ad =>
            by_cases hc0 : 0 < r.length
            · obtain ⟨g1, _, g3⟩ := sl.at_ ad rfl hc0
              rw [run_bytesToString w ad r.length cap r (bytes_at g1 g3), strOf_foldl]
            · have hr0 : r = [] := List.length_eq_zero_iff.1 (by omega)
              subst hr0
              rw [run_bytesToString w ad _ cap ([] : List Int) rfl, strOf_foldl]
        · cases hf
      · cases hf
    · cases hf
  · cases hf
end
end Go.E

set_option linter.unusedVariables false
namespace Go.E
open Go Go.RowKit

section
variable {P : Program} {E : Env} {G : List (Nat × List V)} {w0 : World} {Ob A B F X : Nat → Prop} {μ : Mu} {m : Hp} {w : World} {base : Nat} {s : St} {a : Act} {v : V} {m' : Hp}

def cellsFrom (w : World) (b off n : Nat) : List Value := (List.range n).map fun k => (w.cell? ⟨b, off + k, none⟩).getD undef

theorem cellsFrom_get {w : World} {b off n j : Nat} (hj : j < n) : (cellsFrom w b off n)[j]? = some ((w.cell? ⟨b, off + j, none⟩).getD undef) := by
  simp [cellsFrom, hj]

theorem rows_cells {τ : Ty} {r : List (D τ)} {ad : Addr} (h : RowsAt F w τ r ad) (hw : τ.width ≠ 0) :
    CellsAt w ad.block ad.off (cellsFrom w ad.block ad.off (r.length * τ.width)) ∧ RowsIn F w τ r (cellsFrom w ad.block ad.off (r.length * τ.width)) ∧ (cellsFrom w ad.block ad.off (r.length * τ.width)).length = r.length * τ.width ∧
      ∀ u ∈ cellsFrom w ad.block ad.off (r.length * τ.width), u.oneCell' = true := by
  have hpos : 0 < τ.width := Nat.pos_of_ne_zero hw
  have at_ : ∀ k, k < r.length * τ.width → ∃ u, w.cell? ⟨ad.block, ad.off + k, none⟩ = some u ∧ u.oneCell' = true := fun k hk => by
    have hi : k / τ.width < r.length := (Nat.div_lt_iff_lt_mul hpos).2 hk
    obtain ⟨c, k1, k2⟩ := h (k / τ.width) r[k / τ.width] (List.getElem?_eq_getElem hi)
    have hm : k % τ.width < c.length := by rw [k1.len]; exact Nat.mod_lt _ hpos
    have := k2 (k % τ.width) c[k % τ.width] (List.getElem?_eq_getElem hm)
    rw [show ad.off + k / τ.width * τ.width + k % τ.width = ad.off + k by rw [Nat.add_assoc, Nat.div_add_mod' k τ.width]] at this
    exact ⟨_, this, k1.one _ (List.getElem_mem hm)⟩
  refine ⟨fun j u hj => ?_, fun i x hi => ?_, by simp [cellsFrom], fun u hu => ?_⟩
  · have hlt : j < r.length * τ.width := by have := (List.getElem?_eq_some_iff.1 hj).1; simpa [cellsFrom] using this
    rw [cellsFrom_get hlt] at hj
    obtain ⟨y, hy, _⟩ := at_ j hlt
    rw [hy] at hj ⊢; simpa using hj
  · obtain ⟨c, k1, k2⟩ := h i x hi
    have hil : i < r.length := (List.getElem?_eq_some_iff.1 hi).1
    have hmul : i * τ.width + τ.width ≤ r.length * τ.width := by rw [← Nat.succ_mul]; exact Nat.mul_le_mul_right _ hil
    have e : ((cellsFrom w ad.block ad.off (r.length * τ.width)).drop (i * τ.width)).take τ.width = c := by
      apply List.ext_getElem?
      intro j
      rw [List.getElem?_take]
      split
      · rename_i hj
        rw [List.getElem?_drop, cellsFrom_get (by omega)]
        have hjc : j < c.length := by rw [k1.len]; exact hj
        have := k2 j c[j] (List.getElem?_eq_getElem hjc)
        rw [← Nat.add_assoc, this, List.getElem?_eq_getElem hjc]; rfl
      · rename_i hj
        rw [List.getElem?_eq_none (by rw [k1.len]; omega)]
    rw [e]; exact k1
  · obtain ⟨j, hj, rfl⟩ := List.getElem_of_mem hu
    have hlt : j < r.length * τ.width := by simpa [cellsFrom] using hj
    obtain ⟨y, hy, h1⟩ := at_ j hlt
    simp [cellsFrom, hy, h1]

theorem RowsIn.more {τ : Ty} {l : List (D τ)} {c d : List Value} (h : RowsIn F w τ l c) (hc : l.length * τ.width ≤ c.length) : RowsIn F w τ l (c ++ d) := fun i x hi => by
  have hil : i < l.length := (List.getElem?_eq_some_iff.1 hi).1
  have hmul : i * τ.width + τ.width ≤ l.length * τ.width := by rw [← Nat.succ_mul]; exact Nat.mul_le_mul_right _ hil
  rw [List.drop_append_of_le_length (by omega), List.take_append_of_le_length (by simp; omega)]
  exact h i x hi

theorem RowsIn.app {τ : Ty} {l r : List (D τ)} {c d : List Value} (h : RowsIn F w τ l c) (hc : c.length = l.length * τ.width) (k : RowsIn F w τ r d) : RowsIn F w τ (l ++ r) (c ++ d) := fun i x hi => by
  by_cases hil : i < l.length
  · rw [List.getElem?_append_left hil] at hi
    exact (h.more (by omega)) i x hi
  · rw [List.getElem?_append_right (by omega)] at hi
    have e : i * τ.width = c.length + (i - l.length) * τ.width := by rw [hc, ← Nat.add_mul]; congr 1; omega
    rw [e, List.drop_append, List.drop_eq_nil_of_le (by omega), List.nil_append, Nat.add_sub_cancel_left]
    exact k _ x hi

theorem RowsIn.drewn {w' : World} {τ : Ty} {l : List (D τ)} {c : List Value} (h : RowsIn F w τ l c) (hk : Keep F w w') : RowsIn F w' τ l c := fun i x hi => (h i x hi).mono (fun _ y => y) hk

/-- What is appended. -/
theorem src_of {u e' : Nat} {l : TL} (hk : P.underlying u = some (.slice e')) (hw : l.ty.width ≠ 0) {r : List (D l.ty)} {cv : Value} {ad : Option Addr} {cap : Nat} (hs : SlR F X w l.ty r cv ad cap) :
    ∃ news, Src P l.ty.width u cv r.length news w ∧ RowsIn F w l.ty r news := by
  cases ad with
  | none =>
    have h0 := hs.nil rfl; have h1 := hs.le
    have : r = [] := List.length_eq_zero_iff.1 (by omega)
    subst this
    refine ⟨[], ?_, fun i x hi => by simp at hi⟩
    rw [hs.val]
    exact Src.ofNil w hk cap
  | some ad =>
    by_cases hc0 : 0 < r.length
    rotate_left
    · have hr0 : r = [] := List.length_eq_zero_iff.1 (by omega)
      subst hr0
      refine ⟨[], ?_, fun i x hi => by simp at hi⟩
      rw [hs.val]
      exact Src.ofSlice w hk ad 0 cap [] (by simp) (fun j u hj => by simp at hj) (fun u hu => by cases hu)
    obtain ⟨g1, _, g3⟩ := hs.at_ ad rfl hc0
    obtain ⟨k1, k2, k3, k4⟩ := rows_cells g3 hw
    refine ⟨_, ?_, k2⟩
    rw [hs.val]
    exact Src.ofSlice w hk ad r.length cap _ k3 (fun j u hj => by
      obtain ⟨b, o, sp⟩ := ad
      simp at g1; subst g1
      rw [addr_add]; exact k1 j u hj) k4

theorem exec_append {o : Oper} {c : Call} (ho : o.op = .call c) (hc : c.callee = .builtin .append) {t u : Nat} (hts : c.argTypes.toList = [t, u]) {p q : Operand} (hp : c.args.toList = [p, q]) {cv : Value} {w' : World}
    (hr : (Builtin.append_ #[t, u] o.type #[a.eval p, a.eval q]).run P w = .ok cv w') : (execOp a.eval o).run P w = .ok (.value cv) w' := by
  refine exec_call_builtin ho hc ?_
  have h1 : c.argTypes = #[t, u] := arr_of_list hts
  have h2 : c.args = #[p, q] := arr_of_list hp
  rw [h1, h2]
  simp [builtin, hr]

/-- New rows, grown. -/
theorem append_grow (h : Mem G w0 Ob A B F μ m w) (hb : Fresh μ base) {e : Nat} {l : TL} {L : List (Nat × TL)} (lay : Lay P L e l) {q r : List (D l.ty)} {olds news : List Value} (ho : RowsIn F w l.ty q olds) (hol : olds.length = q.length * l.ty.width)
    (hn : RowsIn F w l.ty r news) (hnl : news.length = r.length * l.ty.width) {z : Value} (hz : z.cells.size = l.ty.width) (old : Nat) :
    ∃ μ', Step1 G w0 Ob A B F μ w base F μ' ((base, some (.rows l.ty (q ++ r))) :: m) (w.drew.alloc (.cells ((olds ++ news).toArray ++ Builtin.zeroCells z.cells (grownCap w (q.length + r.length) old e - (q.length + r.length))) e)) ∧
      R F B (w.drew.alloc (.cells ((olds ++ news).toArray ++ Builtin.zeroCells z.cells (grownCap w (q.length + r.length) old e - (q.length + r.length))) e)) μ' (.arr base) (.slice (some ⟨w.heap.size, 0, none⟩) (q.length + r.length) (grownCap w (q.length + r.length) old e)) := by
  have hge := grownCap_ge w (q.length + r.length) old e
  obtain ⟨μ', st, k⟩ := newRows h.drew hb ((olds ++ news).toArray ++ Builtin.zeroCells z.cells (grownCap w (q.length + r.length) old e - (q.length + r.length))) e (0, 0) l.ty (q ++ r) (grownCap w (q.length + r.length) old e)
    (by simp; exact hge) (by
      simp only [Array.size_append, List.size_toArray, List.length_append, hol, hnl, Builtin.zeroCells, Array.size_map, Array.size_range, hz]
      rw [← Nat.add_mul, ← Nat.add_mul]
      exact Nat.le_of_eq (congrArg (· * l.ty.width) (by omega))) (fun k hk => by simp) (by
      have := (ho.app hol hn).more (d := (Builtin.zeroCells z.cells (grownCap w (q.length + r.length) old e - (q.length + r.length))).toList) (by simp [hol, hnl, Nat.add_mul])
      simpa using RowsIn.drewn (w' := w.drew) this (fun _ _ _ _ e => e))
  refine ⟨μ', ⟨st.mem, ⟨st.tr.sub, st.tr.keep, st.tr.keepB, st.tr.mu⟩, st.loc⟩, ?_⟩
  simpa using k

theorem Fresh.upd {b : Nat} {o : Option MB} (h : Fresh μ base) (hb : μ b ≠ none) : Fresh (upd μ b o) base := fun k hk => by
  unfold E.upd; rw [if_neg (fun e => hb (by rw [← e]; exact h k hk))]; exact h k hk

set_option maxHeartbeats 1000000 in
theorem good_append (h : Pre P E w0 Ob A B F μ s a w) (hb : Fresh μ base) {o : Oper} {c : Call} (ho : o.op = .call c) (hc : c.callee = .builtin .append) {x y : V} (hx : c.args.toList.map (opnd E s) = [x, y]) {t u : Nat} (hts : c.argTypes.toList = [t, u])
    (hf : builtinK E .append [t, u] [x, y] base s.m (fun v m => some (v, m)) = some (v, m')) : Good P E.G w0 Ob A B F μ base o a w v m' := by
  obtain ⟨p, q, hp, rfl, rfl⟩ := list_two hx
  simp only [builtinK] at hf
  obtain ⟨lt, e, l, hlt, hkt, hle, hf⟩ := wE_some hf
  obtain ⟨lu, eu, leu, hlu, hku, _, hf⟩ := wE_some hf
  have ht := (h.env.lay _ lt hlt).kind
  rw [hkt] at ht
  replace ht := ht.1
  have hu := (h.env.lay _ lu hlu).kind
  rw [hku] at hu
  replace hu := hu.1
  have lay := h.env.lay e l hle
  obtain ⟨i, i1, i2, i3, z, i4, i5⟩ := lay.size
  have hzs : z.cells.size = l.ty.width := by
    have := congrArg List.length i5
    simpa [lay.zlen] using this
  have hp0 := h.ev p
  have hq0 := h.ev q
  split at hf
  rotate_left
  · cases hf
  rename_i r hr
  obtain ⟨adq, capq, slq⟩ := rowsOf_ok (X := fun _ => True) h.mem (fun _ _ => trivial) hq0 (fun _ _ _ _ _ _ _ _ _ => trivial) hr
  obtain ⟨news, src, hnews⟩ := src_of hu lay.pos slq
  have src' : Src P i.size u (a.eval q) r.length news w := by rw [i2]; exact src
  split at hf
  · -- onto nil
    rename_i e1
    obtain ⟨hroom, hf⟩ := iteB_none hf
    obtain ⟨rfl, rfl⟩ := ok_pair hf
    have hroom : r.length ≤ roomMax := by have := of_decide_eq_true hroom; simpa using this
    rw [e1] at hp0; simp only [R] at hp0
    by_cases h0 : r.length = 0
    · have hr0 : r = [] := List.length_eq_zero_iff.1 h0
      have hn0 : news = [] := List.length_eq_zero_iff.1 (by rw [src.newsLen, h0, Nat.zero_mul])
      rw [h0, hn0] at src'
      have run := run_append_nothing (P := P) w t u o.type e i ht i1 none 0 0 (Nat.le_refl _) (a.eval q) src'
      let qb : MB := ⟨none, 0, 0, l.ty.width⟩
      have tr : Tr B F F μ (upd μ base (some qb)) w w := ⟨fun _ x => x, fun _ _ _ _ e => e, fun _ _ _ _ e => e, upd_le (.inl hb.at0)⟩
      have mem := h.mem.gen tr h.mem.ext (Nat.le_refl _) base (.rows l.ty r) qb (by simp [upd]) (fun b hb' hs => by simp [upd, hb'])
        ⟨by rw [hr0]; rfl, Nat.le_refl _, rfl, fun _ => rfl, fun ad e => by cases e⟩
        (fun b x q ad _ hx hz hq ha => ⟨fun _ => ⟨rfl, rfl⟩, (h.mem.own b x q ad hx hz hq ha).1, fun _ _ e => by cases e⟩) (fun _ ad e => by cases e) h.mem.fz
      refine Good.value (cv := .slice none 0 0) (exec_append ho hc hts hp (by rw [hp0]; exact run)) ⟨mem, tr, loc_upd μ base _⟩ ?_
      simp only [R]
      exact ⟨some qb, by simp [upd], _, _, _, rfl, fun q hq => by cases hq; exact ⟨rfl, rfl, rfl⟩⟩
    · have hge := growslice_fits (need := 0 + r.length) (old := 0) (bytes := i.bytes) (by omega) (by
        have : (0 + r.length) * i.bytes ≤ 2 ^ 38 * 512 := Nat.mul_le_mul (by rw [Nat.zero_add]; exact hroom) i3
        omega)
      have run := run_append_grow_src (P := P) w t u o.type e i z ht i1 i4 none 0 0 [] (run_firstCells_none w.drew _ _ _ _) (a.eval q) r.length news src' (by omega) (by unfold roomMax at hroom; omega) hge
      obtain ⟨μ', st, k⟩ := append_grow h.mem hb lay (q := []) (r := r) (olds := []) (news := news) (fun i x hi => by simp at hi) (by simp) hnews src.newsLen hzs 0
      simp only [List.length_nil, List.nil_append] at st k
      refine Good.value (exec_append ho hc hts hp (by rw [hp0]; exact run)) ?_ k
      simpa using st
  · -- onto own rows
    rename_i b e1
    rw [e1] at hp0; simp only [R] at hp0
    obtain ⟨ob, e2, p1, p2, p3, e3, e4⟩ := hp0
    split at hf
    rotate_left
    · cases hf
    rename_i σ q0 hbb
    split at hf
    rotate_left
    · cases hf
    rename_i q' hq'
    obtain ⟨eσ, rfl⟩ := castD_some hq'
    cases eσ
    obtain ⟨hroom, hf⟩ := iteB_none hf
    obtain ⟨rfl, rfl⟩ := ok_pair hf
    have hroom : q0.length + r.length ≤ roomMax := of_decide_eq_true hroom
    obtain ⟨qb, e5, k1, k2, k3, k4, k5⟩ := h.mem.box b _ hbb
    rw [e2] at e5; cases e5
    obtain ⟨rfl, rfl, rfl⟩ := e4 qb rfl
    have hbne : μ b ≠ none := by rw [e2]; simp
    have hbb0 : base ≠ b := fun e => hbne (by rw [← e]; exact hb.at0)
    obtain ⟨m1, t1⟩ := (h.mem.kill b).forget b (by rw [Hp.at_cons, if_pos rfl]) (by rw [e2]; rfl)
    have fr1 : Fresh (upd μ b none) base := hb.upd hbne
    have inplace : q0.length + r.length ≤ qb.cap → ∀ w', (Builtin.append_ #[t, u] o.type #[a.eval p, a.eval q]).run P w = .ok (.slice qb.a (q0.length + r.length) qb.cap) w' →
        (∀ ad, qb.a = some ad → w' = w.setCells ad.block (ad.off + q0.length * l.ty.width) news) → (qb.a = none → w' = w) → Good P E.G w0 Ob A B F μ base o a w (.arr base) ((base, some (.rows l.ty (appL q0 r))) :: (b, none) :: s.m) := by
      intro hcap w' run hw1 hw2
      let q2 : MB := ⟨qb.a, q0.length + r.length, qb.cap, l.ty.width⟩
      have hkeep : Tr B F F (upd μ b none) (upd μ b none) w w' ∧ Ext Ob w0 w' ∧ w'.heap.size = w.heap.size := by
        cases ha : qb.a with
        | none => rw [hw2 ha]; exact ⟨Tr.refl _ _ _ _, h.mem.ext, rfl⟩
        | some ad =>
          rw [hw1 ad ha]
          have own := h.mem.own b _ qb ad hbb rfl e2 ha
          exact ⟨Tr.setCells m1 own.1 own.2.1 _ _, h.mem.ext.setCells own.2.2.2 _ _, size_setCells _ _ _ _⟩
      obtain ⟨tr1, ext1, hsz⟩ := hkeep
      have tr2 : Tr B F F (upd μ b none) (upd (upd μ b none) base (some q2)) w w' := ⟨tr1.sub, tr1.keep, tr1.keepB, upd_le (.inl fr1.at0)⟩
      have mem := m1.gen tr2 ext1 (by omega) base (.rows l.ty (q0 ++ r)) q2 (by simp [upd]) (fun b' hb' hs => by simp [upd, hb'])
        (by
          refine ⟨by simp [q2], hcap, rfl, fun e => k4 e, fun ad ha => ?_⟩
          obtain ⟨g1, g2, g3⟩ := k5 ad ha
          rw [hw1 ad ha]
          refine ⟨g1, fun j x hj => ?_, g3.set _ _ _⟩
          have hnl := src.newsLen
          by_cases hjl : j < q0.length
          · rw [List.getElem?_append_left hjl] at hj
            obtain ⟨c', j1, j2⟩ := g2 j x hj
            refine ⟨c', j1.mono (fun _ y => y) (by rw [← hw1 ad ha]; exact tr1.keep), fun k cv hk => ?_⟩
            have hkl : k < l.ty.width := by rw [← j1.len]; exact (List.getElem?_eq_some_iff.1 hk).1
            have hmul : j * l.ty.width + l.ty.width ≤ q0.length * l.ty.width := by rw [← Nat.succ_mul]; exact Nat.mul_le_mul_right _ hjl
            rw [World.cell?_setCells_out _ _ _ _ _ (fun _ _ => .inl (by simp; omega))]
            exact j2 k cv hk
          · rw [List.getElem?_append_right (by omega)] at hj
            have hjr : j - q0.length < r.length := (List.getElem?_eq_some_iff.1 hj).1
            have k6 := hnews _ x hj
            refine ⟨_, k6.mono (fun _ y => y) (by rw [← hw1 ad ha]; exact tr1.keep), fun k cv hk => ?_⟩
            rw [List.getElem?_take] at hk
            split at hk
            · rename_i hkw
              rw [List.getElem?_drop] at hk
              have hlt : (j - q0.length) * l.ty.width + k < news.length := (List.getElem?_eq_some_iff.1 hk).1
              have hmul : (q0.length + r.length) * l.ty.width ≤ qb.cap * l.ty.width := Nat.mul_le_mul_right _ hcap
              rw [Nat.add_mul] at hmul
              have := World.cell?_setCells_in ad.block news (ad.off + q0.length * l.ty.width) w (fun n hn => by
                have := (g3 (q0.length * l.ty.width + n) (by omega)).1
                rwa [← Nat.add_assoc] at this) _ hlt
              have hjm : j * l.ty.width = q0.length * l.ty.width + (j - q0.length) * l.ty.width := by rw [← Nat.add_mul]; congr 1; omega
              rw [show ad.off + q0.length * l.ty.width + ((j - q0.length) * l.ty.width + k) = ad.off + j * l.ty.width + k by omega] at this
              rw [this, ← hk, List.getElem?_eq_getElem hlt]
            · cases hk)
        (fun b' x' q' ad' hb' hx' hz' hq' ha' => by
          have own' := m1.own b' x' q' ad' hx' hz' hq' ha'
          have hbb' : b' ≠ b := fun e => by subst e; rw [Hp.at_cons, if_pos rfl] at hx'; cases hx'
          have hmx : s.m.at b' = some x' := by rw [Hp.at_cons, if_neg (fun e => hbb' e.symm)] at hx'; exact hx'
          have hmq : μ b' = some (some q') := by simpa [upd, hbb'] using hq'
          refine ⟨?_, own'.1, fun ad0 _ h0 e => ?_⟩
          · cases ha : qb.a with
            | none => rw [hw2 ha]; exact fun _ => ⟨rfl, rfl⟩
            | some ad =>
              rw [hw1 ad ha]
              exact same_setCells w _ _ _ (fun e => hbb' (h.mem.inj b' b x' _ q' qb ad' ad hmx hbb hz' rfl hmq e2 ha' ha e))
          · exact hbb' (h.mem.inj b' b x' _ q' qb ad' ad0 hmx hbb hz' rfl hmq e2 ha' h0 e.symm))
        (fun _ ad ha => by rw [hsz]; exact h.mem.own b _ qb ad hbb rfl e2 ha) (fun c hF => by rw [hsz]; exact h.mem.fz c hF)
      refine Good.value (exec_append ho hc hts hp run) ⟨mem, t1.trans tr2, fun id hid hn => ?_⟩ ?_
      · have hidb : id ≠ b := fun e => hbne (e ▸ hn)
        refine loc_upd _ base _ id hid ?_
        simp [upd, hidb, hn]
      · simp only [R]
        exact ⟨some q2, by simp [upd], _, _, _, rfl, fun q hq => by cases hq; exact ⟨rfl, rfl, rfl⟩⟩
    have hev : a.eval p = .slice qb.a q0.length qb.cap := by rw [e3, k1]
    by_cases h0 : r.length = 0
    · have hr0 : r = [] := List.length_eq_zero_iff.1 h0
      have hn0 : news = [] := List.length_eq_zero_iff.1 (by rw [src.newsLen, h0, Nat.zero_mul])
      have src0 := src'
      rw [h0, hn0] at src0
      have run := run_append_nothing (P := P) w t u o.type e i ht i1 qb.a q0.length qb.cap (by omega) (a.eval q) src0
      refine inplace (by omega) w (by rw [hev, h0]; simpa using run) (fun ad ha => by rw [hn0]; rfl) (fun _ => rfl)
    · by_cases hcap : q0.length + r.length ≤ qb.cap
      · cases ha : qb.a with
        | none => have := k4 ha; omega
        | some ad =>
          obtain ⟨g1, g2, g3⟩ := k5 ad ha
          obtain ⟨bb, of, sp⟩ := ad
          simp at g1; subst g1
          have hmul : (q0.length + r.length) * l.ty.width ≤ qb.cap * l.ty.width := Nat.mul_le_mul_right _ hcap
          rw [Nat.add_mul] at hmul
          have hnl := src.newsLen
          have run := run_append_room_src (P := P) w t u o.type e i ht i1 bb of q0.length qb.cap (a.eval q) r.length news src' hcap
            (fun j hj => by rw [i2]; have := (g3 (q0.length * l.ty.width + j) (by omega)).1; rwa [← Nat.add_assoc] at this)
            (fun j hj => by rw [i2]; have := (g3 (q0.length * l.ty.width + j) (by omega)).2; rwa [← Nat.add_assoc] at this)
          refine inplace hcap _ (by rw [hev, ha]; exact run) (fun ad' ha' => by rw [ha] at ha'; cases ha'; rw [i2]) (fun e => by rw [ha] at e; cases e)
      · have hge := growslice_fits (need := q0.length + r.length) (old := qb.cap) (bytes := i.bytes) (by omega) (by
          have : (q0.length + r.length) * i.bytes ≤ 2 ^ 38 * 512 := Nat.mul_le_mul hroom i3
          omega)
        obtain ⟨olds, ho1, ho2, ho3⟩ : ∃ olds : List Value, (Builtin.firstCells i.size q0.length (.slice qb.a q0.length qb.cap)).run P w.drew = .ok olds.toArray w.drew ∧ RowsIn F w l.ty q0 olds ∧ olds.length = q0.length * l.ty.width := by
          cases ha : qb.a with
          | none =>
            have h1 := k4 ha
            have : q0 = [] := List.length_eq_zero_iff.1 (by omega)
            subst this
            exact ⟨[], run_firstCells_none w.drew _ _ _ _, fun i x hi => by simp at hi, by simp⟩
          | some ad =>
            obtain ⟨g1, g2, g3⟩ := k5 ad ha
            obtain ⟨j1, j2, j3, j4⟩ := rows_cells g2 lay.pos
            refine ⟨_, run_firstCells_some w.drew i.size q0.length ad q0.length qb.cap _ (by rw [i2]; exact j3) (fun j u hj => ?_), j2, j3⟩
            obtain ⟨bb, of, sp⟩ := ad
            simp at g1; subst g1
            rw [addr_add]; exact j1 j u hj
        have run := run_append_grow_src (P := P) w t u o.type e i z ht i1 i4 qb.a q0.length qb.cap olds ho1 (a.eval q) r.length news src' (by omega) (by unfold roomMax at hroom; omega) hge
        obtain ⟨μ', st, k⟩ := append_grow m1 fr1 lay (q := q0) (r := r) (olds := olds) (news := news) ho2 ho3 hnews src.newsLen hzs qb.cap
        refine Good.value (exec_append ho hc hts hp (by rw [hev]; exact run)) ⟨st.mem, t1.trans st.tr, fun id hid hn => st.loc id hid ?_⟩ k
        have hidb : id ≠ b := fun e => hbne (e ▸ hn)
        simp [upd, hidb, hn]
  · cases hf
end
end Go.E

set_option linter.unusedVariables false
namespace Go.E
open Go Go.RowKit

section
variable {P : Program} {E : Env} {G : List (Nat × List V)} {w0 : World} {Ob A B F X : Nat → Prop} {μ : Mu} {m : Hp} {w : World} {base : Nat} {s : St} {a : Act} {v : V} {m' : Hp}

theorem wOI_some {ρ : Type} {x : Option Operand} {d : Int} {K : Int → Option ρ} {r : ρ} (hev : ∀ x, R F B w μ (opnd E s x) (a.eval x)) (h : wOI E s x d K = some r) :
    ∃ n, K n = some r ∧ ((x = none ∧ n = d) ∨ ∃ y k, x = some y ∧ a.eval y = .int k n) := by
  unfold wOI at h; split at h
  · rename_i y
    obtain ⟨k, n, e, h⟩ := wI_some h
    exact ⟨n, h, .inr ⟨y, k, rfl, R_int (e ▸ hev y)⟩⟩
  · exact ⟨d, h, .inl ⟨rfl, rfl⟩⟩

theorem okCut_iff {l h n : Int} (e : okCut l h n = true) : 0 ≤ l ∧ l ≤ h ∧ h ≤ n := of_decide_eq_true e

theorem run_bounds {isSlice : Bool} {len cap : Nat} {lo hi : Option Operand} {l h : Int} (hl : (lo = none ∧ l = 0) ∨ ∃ y k, lo = some y ∧ a.eval y = .int k l) (hh : (hi = none ∧ h = len) ∨ ∃ y k, hi = some y ∧ a.eval y = .int k h)
    (h0 : 0 ≤ l) (h1 : l ≤ h) (h2 : h ≤ len) (hc : len ≤ cap) : (Instr.sliceBounds isSlice len cap (lo.map a.eval) (hi.map a.eval) none).run P w = .ok (l.toNat, h.toNat, cap) w := by
  have b1 : ∀ (x : Nat) (code : BoundsCode) (y : Operand) k (n : Int), a.eval y = .int k n → 0 ≤ n → n ≤ x → (Instr.sliceBound (a.eval y) x code).run P w = .ok n.toNat w := by
    intro x code y k n e k0 k1
    simp [Instr.sliceBound, e, asIntOf, k0, k1]
  unfold Instr.sliceBounds
  rcases hh with ⟨rfl, rfl⟩ | ⟨y, k, rfl, e⟩
  · rcases hl with ⟨rfl, rfl⟩ | ⟨y', k', rfl, e'⟩
    · simp
    · have := b1 len .sliceB y' k' l e' h0 h1
      simp [this]
  · have hb := b1 cap (if isSlice then .sliceAcap else .sliceAlen) y k h e (by omega) (by omega)
    rcases hl with ⟨rfl, rfl⟩ | ⟨y', k', rfl, e'⟩
    · simp [hb]
    · have := b1 h.toNat .sliceB y' k' l e' h0 (by omega)
      simp [hb, this]

theorem good_slice (h : Pre P E w0 Ob A B F μ s a w) {o : Oper} {t : Nat} {x : Operand} {lo hi mx : Option Operand} (ho : o.op = .slice t x lo hi mx) (hf : opF E o.op base s = some (v, m')) : Good P E.G w0 Ob A B F μ base o a w v m' := by
  rw [ho] at hf; simp only [opF, opK] at hf
  split at hf
  · cases hf
  obtain ⟨tl, htl, hf⟩ := wT_some hf
  have hk := (h.env.lay _ tl htl).kind
  have hx := h.ev x
  have exec : ∀ {cv : Value}, (Instr.slice t (a.eval x) (lo.map a.eval) (hi.map a.eval) none).run P w = .ok cv w → (∀ n e, P.underlying t ≠ some (.array n e)) → (∃ d, P.underlying t = some d) → (execOp a.eval o).run P w = .ok (.value cv) w := by
    intro cv hr hna ⟨d, hd⟩
    unfold execOp; rw [ho]
    have : (Instr.sliceAt t (a.eval x) (lo.map a.eval) (hi.map a.eval) none).run P w = .ok cv w := by
      unfold Instr.sliceAt
      simp only [Sem.run_bind, run_underlying hd, Result.andThen_ok]
      cases d <;> first | exact hr | exact absurd hd (hna _ _)
    simp [this]
  split at hf
  · rename_i e; rw [e] at hk
    split at hf
    · rename_i b e1
      have ex := R_str (e1 ▸ hx)
      obtain ⟨l, hf, hl⟩ := wOI_some h.ev hf
      obtain ⟨hh, hf, hhh⟩ := wOI_some h.ev hf
      obtain ⟨hcut, hf⟩ := iteB_none hf
      obtain ⟨rfl, rfl⟩ := ok_pair hf
      obtain ⟨c0, c1, c2⟩ := okCut_iff hcut
      unfold lenS at hhh c2
      refine Good.same h (cv := .string (cutS b l hh)) (exec ?_ (fun n e' he => by rw [hk.1] at he; cases he) ⟨_, hk.1⟩) (mk_str _)
      have rb := run_bounds (P := P) (w := w) (a := a) (isSlice := false) (len := b.size) (cap := b.size) hl hhh c0 c1 c2 (Nat.le_refl _)
      unfold Instr.slice
      simp only [Sem.run_bind, run_underlying hk.1, Result.andThen_ok, ex, cutS, Option.isSome_none, Bool.false_eq_true, if_false, rb, Sem.run_pure]
    · cases hf
  · rename_i e' e; rw [e] at hk
    obtain ⟨le, hle, hf⟩ := wT_some hf
    have lay := h.env.lay _ le hle
    split at hf
    · rename_i r hr
      obtain ⟨l, hf, hl⟩ := wOI_some h.ev hf
      obtain ⟨hh, hf, hhh⟩ := wOI_some h.ev hf
      obtain ⟨hcut, hf⟩ := iteB_none hf
      obtain ⟨rfl, rfl⟩ := ok_pair hf
      obtain ⟨c0, c1, c2⟩ := okCut_iff hcut
      unfold lenL at hhh c2
      obtain ⟨F', h', tr⟩ := h.mem.frz (opnd E s x)
      obtain ⟨ad, cap, sl⟩ := rowsOf_ok (X := F') h.mem tr.sub hx (fun b hb σ r' q ad' e0 e1 e2 => by
        have hat := frz_at s.m (opnd E s x) b
        rw [if_pos (by cases hxx : opnd E s x <;> rw [hxx] at hb <;> first | exact hb | simp [arrs1] at hb), e0] at hat
        obtain ⟨q', e3, _, _, _, _, k⟩ := h'.box b _ hat
        rw [e1] at e3; cases e3
        exact (k ad' e2).2.1) hr
      have rb := run_bounds (P := P) (w := w) (a := a) (isSlice := true) (len := r.length) (cap := cap) hl hhh c0 c1 c2 sl.le
      have hcl : (cutL r l hh).length = hh.toNat - l.toNat := by
        simp only [cutL, List.length_drop, List.length_take]
        rw [Nat.min_eq_left (by omega)]
      refine Good.value (cv := .slice (if cap = l.toNat then ad else ad.map (·.add (l.toNat * le.ty.width))) (hh.toNat - l.toNat) (cap - l.toNat)) (exec ?_ (fun n e' he => by rw [hk.1] at he; cases he) ⟨_, hk.1⟩) ⟨h', tr, fun _ _ h => h⟩ ?_
      · unfold Instr.slice
        simp only [Sem.run_bind, run_underlying hk.1, Result.andThen_ok, sl.val, rb, Sem.run_pure, lay.run_size]
      · simp only [R, Ty.agg, RC]
        refine ⟨_, cap - l.toNat, by rw [hcl], ?_, ?_, ?_⟩
        · rw [hcl]; have := sl.le; omega
        · intro hn
          split at hn
          · rename_i hcl'; have := sl.nil hn; omega
          · cases ad with
            | none => have := sl.nil rfl; omega
            | some ad => simp at hn
        · intro ad' hn hcp
          have hcp : 0 < hh.toNat - l.toNat := by rw [← hcl]; exact hcp
          have hle := sl.le
          by_cases hcl' : cap = l.toNat
          · rw [if_pos hcl'] at hn
            omega
          · rw [if_neg hcl'] at hn
            cases ad with
            | none => simp at hn
            | some ad =>
              simp at hn; subst hn
              obtain ⟨g1, g2, g3⟩ := sl.at_ ad rfl (by omega)
              obtain ⟨bb, of, sp⟩ := ad
              simp at g1; subst g1
              rw [addr_add]
              refine ⟨rfl, g2, fun i y hy => ?_⟩
              have hy' : r[l.toNat + i]? = some y := by
                have hy2 : ((r.take hh.toNat).drop l.toNat)[i]? = some y := hy
                rw [List.getElem?_drop, List.getElem?_take] at hy2
                split at hy2
                · exact hy2
                · cases hy2
              obtain ⟨c, j1, j2⟩ := g3 _ y hy'
              refine ⟨c, j1.mono tr.sub (fun _ _ _ _ e => e), ?_⟩
              have : of + l.toNat * le.ty.width + i * le.ty.width = of + (l.toNat + i) * le.ty.width := by rw [Nat.add_mul]; omega
              rw [this]; exact j2
    · cases hf
  · cases hf

theorem good_makeSlice (h : Pre P E w0 Ob A B F μ s a w) (hb : Fresh μ base) {o : Oper} {t : Nat} {x y : Operand} (ho : o.op = .makeSlice t x y) (hf : opF E o.op base s = some (v, m')) : Good P E.G w0 Ob A B F μ base o a w v m' := by
  rw [ho] at hf; simp only [opF, opK] at hf
  obtain ⟨lt, e, l, hlt, hkt, hle, hf⟩ := wE_some hf
  have ht := (h.env.lay _ lt hlt).kind
  rw [hkt] at ht
  replace ht := ht.1
  have lay := h.env.lay e l hle
  obtain ⟨z, hz, hf⟩ := zeroD_some hf
  obtain ⟨k1, n, e1, hf⟩ := wI_some hf
  obtain ⟨k2, n', e2, hf⟩ := wI_some hf
  obtain ⟨hnn, hf⟩ := iteB_none hf
  obtain ⟨hroom, hf⟩ := iteB_none hf
  obtain ⟨rfl, rfl⟩ := ok_pair hf
  have hnn : n = n' := of_decide_eq_true hnn
  subst hnn
  have hroom : (0 : Int) ≤ n ∧ (n : Int) ≤ 274877906944 := of_decide_eq_true hroom
  obtain ⟨hr0, hr1⟩ := hroom
  have ex := R_int (e1 ▸ h.ev x); have ey := R_int (e2 ▸ h.ev y)
  obtain ⟨zv, z1, z2, z3, z4⟩ := zero_ok h.mem lay hz
  obtain ⟨i, i1, i2, i3, zi, i4, i5⟩ := lay.size
  have hzi : zi = zv := by
    have := z3 w
    simp [zeroValue, typeInfo, i1, i4] at this
    exact this
  subst hzi
  have hbytes : (i.bytes : Int) * n ≤ 281474976710656 := by
    have h1 : (i.bytes : Int) ≤ 512 := by omega
    have h2 : (i.bytes : Int) * n ≤ 512 * n := Int.mul_le_mul_of_nonneg_right h1 hr0
    omega
  have run := run_make (P := P) w t e i zi ht i1 i4 k1 k2 n n hr0 (Int.le_refl _) hbytes (by omega)
  obtain ⟨μ', st, k⟩ := newRows h.mem hb (madeCells zi.cells (n.toNat * i.size)) e (0, 0) l.ty (repL n z) n.toNat (by simp [repL]) (by rw [size_madeCells, i2]; exact Nat.le_refl _) (fun k hk => by simp)
    (by unfold madeCells repL; rw [i2]; exact RowsIn.zeros z4 (Nat.le_refl _) lay.pos)
  have hl : (repL n z).length = n.toNat := by simp [repL]
  rw [hl] at k
  refine Good.value ?_ st k
  unfold execOp; rw [ho]; simp only [Sem.run_bind, ex, ey, run, Result.andThen_ok, Sem.run_pure]
end
end Go.E

