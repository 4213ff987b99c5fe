/- From a function's code to its contract, and from a row to its arguments. No condition. -/
import Derived.Test.YtapdjooadgdbaaaEC
import Derived.Laws.Externs
import Derived.Lib.Bytealg
import Derived.IntWalk
import Derived.ChangeArms
import Derived.WideShapes
import Derived.Below
set_option linter.unusedVariables false
namespace Go.E
open Go Go.RowKit

/-! A function's end. -/

def rvS (tmps : Array Value) : ResultVar → Sem Value
  | .tmp t => pure (tmps.getD t undef)
  | .cell a t => do loadVar t (← asAddr (tmps.getD a undef))

def finV : List Value → Value
  | [v] => v
  | vs => .tuple vs.toArray

def RunL (P : Program) (tmps : Array Value) (w : World) : List ResultVar → List Value → Prop
  | [], [] => True
  | r :: rs, v :: vs => (rvS tmps r).run P w = .ok v w ∧ RunL P tmps w rs vs
  | _, _ => False

section
variable {P : Program} {E : Env} {w0 : World} {Ob A B F F' : Nat → Prop} {μ : Mu} {m : Hp} {w : World} {s : St} {a : Act} {v : V}

theorem mapM_run {tmps : Array Value} : ∀ (rs : List ResultVar) (vs : List Value), RunL P tmps w rs vs → (rs.mapM (rvS tmps)).run P w = .ok vs w
  | [], [], _ => by simp
  | r :: rs, v :: vs, h => by simp [h.1, mapM_run rs vs h.2]
  | [], _ :: _, h => h.elim
  | _ :: _, [], h => h.elim

theorem results_run {fn : Func} {rs : List ResultVar} (hr : fn.results = rs.toArray) {tmps : Array Value} {vs : List Value} (h : RunL P tmps w rs vs) : (results fn tmps).run P w = .ok (finV vs) w := by
  have e : results fn tmps = (do let vs ← fn.results.mapM (rvS tmps); pure (if h : vs.size = 1 then vs[0] else .tuple vs)) := by
    unfold results
    congr 1
  rw [e, hr, List.mapM_toArray]
  simp only [Sem.run_bind, Sem.run_map, mapM_run rs vs h]
  match vs with
  | [] => simp [finV]
  | [v] => simp [finV]
  | _ :: _ :: _ => simp [finV]

theorem rv_ok (h : Pre P E w0 Ob A B F μ s a w) (ht : ∀ t, R F B w μ (s.get t) (a.tmps.getD t undef)) (r : ResultVar) (hu : rvV E s r ≠ .undef) : ∃ cv, (rvS a.tmps r).run P w = .ok cv w ∧ R F B w μ (rvV E s r) cv := by
  cases r with
  | tmp t => exact ⟨_, by simp [rvS], ht t⟩
  | cell x t =>
    simp only [rvV] at hu ⊢
    split at hu
    · rename_i l b off hl hx
      split at hu
      · rename_i cs hb
        split at hu
        · rename_i v hv
          have hr := ht x
          rw [hx] at hr
          obtain ⟨q, e4, ad, vs, k1, k2, k3, k4, k5⟩ := h.mem.box b _ hb
          simp only [R] at hr
          obtain ⟨o', e1, p, e2, e3⟩ := hr
          rw [e1] at e4; cases e4
          obtain ⟨ad', e5, rfl⟩ := e3 q rfl
          rw [k1] at e5; cases e5
          have hv' : cellK l cs off s.m (fun v m => some (v, m)) = some (v, s.m) := by
            unfold cellK at hv ⊢
            split at hv
            · split at hv
              · simp only [Option.some.injEq] at hv; rw [if_pos ‹_›, hv]
              · cases hv
            · split at hv
              · simp only [Option.some.injEq] at hv; rw [← hv]
              · cases hv
          obtain ⟨_, cv, e6, e7⟩ := cell_load (h.env.lay t l hl) k3 k4 hv'
          refine ⟨cv, by simp [rvS, e2, asAddr, e6], ?_⟩
          exact e7
        · exact absurd rfl hu
      · exact absurd rfl hu
    · exact absurd rfl hu

theorem getRO_known {o : RO} {x : D o.ty} (h : getRO m v o = some x) : v ≠ .undef := by
  rintro rfl
  cases o with
  | val τ =>
    have h' : typed m τ .undef = some x := h
    cases τ <;> simp [typed, typed1, rowsOf] at h'
  | own τ => cases h
  | st τ => cases h
  | mx τ off σ es => cases h

theorem headT_consT {τ : Ty} (x : D τ) : ∀ (ts : List Ty) (r : D (tupTy ts)), headT ts (consT x ts r) = x
  | [], _ => rfl
  | _ :: _, _ => rfl
theorem tailT_consT {τ : Ty} (x : D τ) : ∀ (ts : List Ty) (r : D (tupTy ts)), tailT ts (consT x ts r) = r
  | [], _ => rfl
  | _ :: _, _ => rfl

/-- Own memory that is handed back. -/
def Owns (F' B : Nat → Prop) (w : World) (μ : Mu) (m : Hp) : List (Option Nat) → List MB → List Bx → Prop
  | [], [], [] => True
  | i :: is, q :: qs, x :: xs => ((∀ b, i = some b → ∃ y, m.at b = some y ∧ y.isFz = false ∧ μ b = some (some q)) ∧ (i = none → q.a = none) ∧ BoxRel F' B w noMu x q ∧ okBx x = true) ∧ Owns F' B w μ m is qs xs
  | _, _, _ => False

theorem leafs_free : ∀ (τ : Ty) (x : D τ), (leafs τ x).all idFree = true
  | .pr a b, x => by
    show (leafs a x.1 ++ leafs b x.2).all idFree = true
    rw [List.all_append, leafs_free a, leafs_free b]; rfl
  | .q, x => rfl
  | .unit, x => rfl
  | .int k, x => rfl
  | .bool, x => rfl
  | .str, x => rfl
  | .err, x => rfl
  | .sl e, x => rfl

/-- A variable's contents, as the typed value that they are. -/
theorem st_box (h : Mem E.G w0 Ob A B F μ m w) (hF : ∀ b, F b → F' b) {b : Nat} {cs : List V} (hb : m.at b = some (.cs cs)) (hv : In F' μ m (cs.flatMap arrs1)) {τ : Ty} {x : D τ} (hx : asm m τ cs = some (x, [])) :
    ∃ q, μ b = some (some q) ∧ BoxRel F' B w noMu (.cs (leafs τ x)) q := by
  obtain ⟨q, e4, ad, vs, k1, k2, k3, k4, k5⟩ := h.box b _ hb
  obtain ⟨v1, v2, e1, e2, e3, _⟩ := asm_ok h hF τ k3 hv hx
  have : v2 = [] := by cases v2 with
    | nil => rfl
    | cons _ _ => simp [RL] at e3
  subst this
  rw [List.append_nil] at e1
  subst e1
  have k := leafs_ok (B := B) (μ := noMu) τ e2
  have l1 := RL.len k
  have l2 := RL.len k3
  exact ⟨q, e4, ad, vs, k1, k2, k, k4, by rw [l1, ← l2]; exact k5⟩

theorem resParts_val (ps : List PT) (t : ResultVar) (τ : Ty) (r : List (ResultVar × RO)) (x : D τ) (y : D (tupTy ((r.map fun p : ResultVar × RO => p.2.ty) ++ outTys ps))) (k : Nat) :
    resParts ps ((t, RO.val τ) :: r) (consT (τ := τ) x ((r.map fun p : ResultVar × RO => p.2.ty) ++ outTys ps) y) k = (.val τ x :: (resParts ps r y k).1, (resParts ps r y k).2.1, (resParts ps r y k).2.2) := by
  show (match resParts ps r (tailT (τ := τ) _ (consT (τ := τ) x ((r.map fun p : ResultVar × RO => p.2.ty) ++ outTys ps) y)) k with | (vs, bs, os) => (V.val τ (headT (τ := τ) _ (consT (τ := τ) x ((r.map fun p : ResultVar × RO => p.2.ty) ++ outTys ps) y)) :: vs, bs, os)) = _
  rw [tailT_consT, headT_consT]
theorem resParts_own (ps : List PT) (t : ResultVar) (τ : Ty) (r : List (ResultVar × RO)) (x : D (.sl τ)) (y : D (tupTy ((r.map fun p : ResultVar × RO => p.2.ty) ++ outTys ps))) (k : Nat) :
    resParts ps ((t, RO.own τ) :: r) (consT (τ := .sl τ) x ((r.map fun p : ResultVar × RO => p.2.ty) ++ outTys ps) y) k = (.arr k :: (resParts ps r y (k + 1)).1, .rows τ x :: (resParts ps r y (k + 1)).2.1, (resParts ps r y (k + 1)).2.2) := by
  show (match resParts ps r (tailT (τ := .sl τ) _ (consT (τ := .sl τ) x ((r.map fun p : ResultVar × RO => p.2.ty) ++ outTys ps) y)) (k + 1) with | (vs, bs, os) => (V.arr k :: vs, Bx.rows τ (headT (τ := .sl τ) _ (consT (τ := .sl τ) x ((r.map fun p : ResultVar × RO => p.2.ty) ++ outTys ps) y)) :: bs, os)) = _
  rw [tailT_consT, headT_consT]
theorem resParts_st (ps : List PT) (t : ResultVar) (τ : Ty) (r : List (ResultVar × RO)) (x : D τ) (y : D (tupTy ((r.map fun p : ResultVar × RO => p.2.ty) ++ outTys ps))) (k : Nat) :
    resParts ps ((t, RO.st τ) :: r) (consT (τ := τ) x ((r.map fun p : ResultVar × RO => p.2.ty) ++ outTys ps) y) k = (.ptr k 0 :: (resParts ps r y (k + 1)).1, .cs (leafs τ x) :: (resParts ps r y (k + 1)).2.1, (resParts ps r y (k + 1)).2.2) := by
  show (match resParts ps r (tailT (τ := τ) _ (consT (τ := τ) x ((r.map fun p : ResultVar × RO => p.2.ty) ++ outTys ps) y)) (k + 1) with | (vs, bs, os) => (V.ptr k 0 :: vs, Bx.cs (leafs τ (headT (τ := τ) _ (consT (τ := τ) x ((r.map fun p : ResultVar × RO => p.2.ty) ++ outTys ps) y))) :: bs, os)) = _
  rw [tailT_consT, headT_consT]

theorem resParts_mx (ps : List PT) (t : ResultVar) (τ : Ty) (off : Nat) (σ : Ty) (es : List Nat) (r : List (ResultVar × RO)) (x : D τ) (y : D (tupTy ((r.map fun p : ResultVar × RO => p.2.ty) ++ outTys ps))) (k : Nat) :
    resParts ps ((t, RO.mx τ off σ es) :: r) (consT (τ := τ) x ((r.map fun p : ResultVar × RO => p.2.ty) ++ outTys ps) y) k = (.agg ((empL (leafs τ x) es).set off (.arr k)) :: (resParts ps r y (k + 1)).1, .rows σ ((rowAt (leafs τ x) off σ).getD []) :: (resParts ps r y (k + 1)).2.1, (resParts ps r y (k + 1)).2.2) := by
  show (match resParts ps r (tailT (τ := τ) _ (consT (τ := τ) x ((r.map fun p : ResultVar × RO => p.2.ty) ++ outTys ps) y)) (k + 1) with | (vs, bs, os) => (V.agg ((empL (leafs τ (headT (τ := τ) _ (consT (τ := τ) x ((r.map fun p : ResultVar × RO => p.2.ty) ++ outTys ps) y))) es).set off (.arr k)) :: vs, Bx.rows σ ((rowAt (leafs τ (headT (τ := τ) _ (consT (τ := τ) x ((r.map fun p : ResultVar × RO => p.2.ty) ++ outTys ps) y))) off σ).getD []) :: bs, os)) = _
  rw [tailT_consT, headT_consT]

theorem getAll_cons {ps : List PT} {t : ResultVar} {o : RO} {r : List (ResultVar × RO)} {y : D (tupTy (((t, o) :: r).map (·.2.ty) ++ outTys ps))} (hy : getAll E s ps ((t, o) :: r) = some y) :
    ∃ (x : D o.ty) (y' : D (tupTy ((r.map fun p : ResultVar × RO => p.2.ty) ++ outTys ps))), getRO s.m (rvV E s t) o = some x ∧ getAll E s ps r = some y' ∧ y = consT (τ := o.ty) x ((r.map fun p : ResultVar × RO => p.2.ty) ++ outTys ps) y' := by
  simp only [getAll] at hy
  split at hy
  case h_2 => cases hy
  rename_i x hx
  split at hy
  case h_2 => cases hy
  rename_i y' hy'
  simp only [Option.some.injEq] at hy
  exact ⟨x, y', hx, hy', hy.symm⟩

theorem getAll_val {ps : List PT} {t : ResultVar} {τ : Ty} {r : List (ResultVar × RO)} {y : D (tupTy (((t, RO.val τ) :: r).map (·.2.ty) ++ outTys ps))} (hy : getAll E s ps ((t, .val τ) :: r) = some y) :
    ∃ (x : D τ) (y' : D (tupTy ((r.map fun p : ResultVar × RO => p.2.ty) ++ outTys ps))), getRO s.m (rvV E s t) (.val τ) = some x ∧ getAll E s ps r = some y' ∧ ∀ k, resParts ps ((t, RO.val τ) :: r) y k = (.val τ x :: (resParts ps r y' k).1, (resParts ps r y' k).2.1, (resParts ps r y' k).2.2) := by
  obtain ⟨x, y', h1, h2, rfl⟩ := getAll_cons hy
  exact ⟨x, y', h1, h2, fun k => resParts_val ps t τ r x y' k⟩
theorem getAll_own {ps : List PT} {t : ResultVar} {τ : Ty} {r : List (ResultVar × RO)} {y : D (tupTy (((t, RO.own τ) :: r).map (·.2.ty) ++ outTys ps))} (hy : getAll E s ps ((t, .own τ) :: r) = some y) :
    ∃ (x : List (D τ)) (y' : D (tupTy ((r.map fun p : ResultVar × RO => p.2.ty) ++ outTys ps))), getRO s.m (rvV E s t) (.own τ) = some x ∧ getAll E s ps r = some y' ∧
      ∀ k, resParts ps ((t, RO.own τ) :: r) y k = (.arr k :: (resParts ps r y' (k + 1)).1, .rows τ x :: (resParts ps r y' (k + 1)).2.1, (resParts ps r y' (k + 1)).2.2) := by
  obtain ⟨x, y', h1, h2, rfl⟩ := getAll_cons hy
  exact ⟨x, y', h1, h2, fun k => resParts_own ps t τ r x y' k⟩
theorem getAll_st {ps : List PT} {t : ResultVar} {τ : Ty} {r : List (ResultVar × RO)} {y : D (tupTy (((t, RO.st τ) :: r).map (·.2.ty) ++ outTys ps))} (hy : getAll E s ps ((t, .st τ) :: r) = some y) :
    ∃ (x : D τ) (y' : D (tupTy ((r.map fun p : ResultVar × RO => p.2.ty) ++ outTys ps))), getRO s.m (rvV E s t) (.st τ) = some x ∧ getAll E s ps r = some y' ∧
      ∀ k, resParts ps ((t, RO.st τ) :: r) y k = (.ptr k 0 :: (resParts ps r y' (k + 1)).1, .cs (leafs τ x) :: (resParts ps r y' (k + 1)).2.1, (resParts ps r y' (k + 1)).2.2) := by
  obtain ⟨x, y', h1, h2, rfl⟩ := getAll_cons hy
  exact ⟨x, y', h1, h2, fun k => resParts_st ps t τ r x y' k⟩
theorem getAll_mx {ps : List PT} {t : ResultVar} {τ : Ty} {off : Nat} {σ : Ty} {es : List Nat} {r : List (ResultVar × RO)} {y : D (tupTy (((t, RO.mx τ off σ es) :: r).map (·.2.ty) ++ outTys ps))} (hy : getAll E s ps ((t, .mx τ off σ es) :: r) = some y) :
    ∃ (x : D τ) (y' : D (tupTy ((r.map fun p : ResultVar × RO => p.2.ty) ++ outTys ps))), getRO s.m (rvV E s t) (.mx τ off σ es) = some x ∧ getAll E s ps r = some y' ∧
      ∀ k, resParts ps ((t, RO.mx τ off σ es) :: r) y k = (.agg ((empL (leafs τ x) es).set off (.arr k)) :: (resParts ps r y' (k + 1)).1, .rows σ ((rowAt (leafs τ x) off σ).getD []) :: (resParts ps r y' (k + 1)).2.1, (resParts ps r y' (k + 1)).2.2) := by
  obtain ⟨x, y', h1, h2, rfl⟩ := getAll_cons hy
  exact ⟨x, y', h1, h2, fun k => resParts_mx ps t τ off σ es r x y' k⟩
theorem empL_ok {cs : List V} : ∀ {es : List Nat}, empOk cs es = true → empL cs es = cs
  | [], _ => rfl
  | i :: r, h => by
    simp only [empOk, Bool.and_eq_true] at h
    obtain ⟨h1, h2⟩ := h
    simp only [empL]
    split
    · rename_i v hv
      rw [hv] at h1
      have h1 : isEmpV v = true := h1
      have e : empV v = v := by
        cases v with
        | val τ x =>
          cases τ with
          | sl e =>
            have hx : ∀ l : List (D e), isEmpV (.val (.sl e) l) = true → empV (.val (.sl e) l) = .val (.sl e) l := fun l h => by
              cases l with
              | nil => rfl
              | cons _ _ => cases h
            exact hx x h1
          | _ => rfl
        | _ => rfl
      rw [e, set_same hv]
      exact empL_ok h2
    · exact empL_ok h2
theorem getRO_mx {τ : Ty} {off : Nat} {σ : Ty} {es : List Nat} {x : D τ} (h : getRO m v (.mx τ off σ es) = some x) : ∃ cs l, v = .agg cs ∧ τ.agg = true ∧ asm m τ cs = some (x, []) ∧ rowAt (leafs τ x) off σ = some l ∧ empOk (leafs τ x) es = true ∧
    ((cs[off]? = some .nil) ∨ ∃ b, cs[off]? = some (.arr b) ∧ ∃ l', m.at b = some (.rows σ l')) := by
  cases v with
  | agg cs =>
    have h' : (if ownAt m cs off σ = true ∧ τ.agg = true then (match asm m τ cs with
      | some (x, []) => if empOk (leafs τ x) es = true then (match rowAt (leafs τ x) off σ with
        | some _ => some x
        | none => none) else none
      | _ => none) else none) = some x := h
    split at h'
    case isFalse => cases h'
    rename_i hc
    split at h'
    case h_2 => cases h'
    rename_i x' hx
    split at h'
    case isFalse => cases h'
    rename_i hes
    split at h'
    case h_2 => cases h'
    rename_i l hl
    have h' := Option.some.inj h'
    subst h'
    refine ⟨cs, l, rfl, hc.2, hx, hl, hes, ?_⟩
    have ho := hc.1
    unfold ownAt at ho
    split at ho
    · rename_i e; exact .inl e
    · rename_i b e
      split at ho
      · rename_i τ' l' hb
        have ho := of_decide_eq_true ho
        subst ho
        exact .inr ⟨b, e, l', hb⟩
      · cases ho
    · cases ho
  | _ => cases h
theorem getRO_own {τ : Ty} {x : List (D τ)} (h : getRO m v (.own τ) = some x) : (v = .nil ∧ x = []) ∨ ∃ b, v = .arr b ∧ m.at b = some (.rows τ x) := by
  cases v with
  | nil => exact .inl ⟨rfl, by have h' : some ([] : List (D τ)) = some x := h; cases h'; rfl⟩
  | arr b =>
    have h' : (match m.at b with
      | some (.rows σ l) => castD (τ := .sl σ) (σ := .sl τ) l
      | _ => none) = some x := h
    split at h'
    · rename_i σ l hb
      obtain ⟨e1, e2⟩ := castD_some h'
      cases e1
      subst e2
      exact .inr ⟨b, rfl, hb⟩
    · cases h'
  | _ => cases h
theorem getRO_st {τ : Ty} {x : D τ} (h : getRO m v (.st τ) = some x) : ∃ b cs, v = .ptr b 0 ∧ m.at b = some (.cs cs) ∧ asm m τ cs = some (x, []) := by
  cases v with
  | ptr b off =>
    cases off with
    | succ n => cases h
    | zero =>
      have h' : (match m.at b with
        | some (.cs cs) => match asm m τ cs with
          | some (x, []) => some x
          | _ => none
        | _ => none) = some x := h
      split at h'
      · rename_i cs hb
        split at h'
        · rename_i x' hx'; cases h'; exact ⟨b, cs, rfl, hb, hx'⟩
        · cases h'
      · cases h'
  | _ => cases h

theorem parts_ok (h : Pre P E w0 Ob A B F μ s a w) (ht : ∀ t, R F B w μ (s.get t) (a.tmps.getD t undef)) (hF : ∀ b, F b → F' b) (ps : List PT) :
    ∀ (ros : List (ResultVar × RO)) (k : Nat) (y : D (tupTy (ros.map (·.2.ty) ++ outTys ps))), getAll E s ps ros = some y → In F' μ s.m (ros.flatMap fun p => valArr s.m (rvV E s p.1) p.2) →
      ∃ cvs ids qs rest, RunL P a.tmps w (ros.map (·.1)) cvs ∧ ids.filterMap id = ros.filterMap (fun p => ownId (rvV E s p.1) p.2) ∧ Owns F' B w μ s.m ids qs (resParts ps ros y k).2.1 ∧
        getOuts s 0 ps = some rest ∧ (resParts ps ros y k).2.2 = outsOf 0 ps rest ∧ (resParts ps ros y k).1.all simple2 = true ∧ (resParts ps ros y k).1.length = ros.length ∧
        ∀ ν : Mu, (∀ j q, qs[j]? = some q → ν (k + j) = some (some q)) → RL F' B w ν (resParts ps ros y k).1 cvs
  | [], k, y, hy, _ => ⟨[], [], [], y, trivial, rfl, trivial, hy, rfl, rfl, rfl, fun ν _ => by simp [resParts, RL]⟩
  | (t, o) :: r, k, y, hy, hin => by
    simp only [List.flatMap_cons, In.app] at hin
    cases o with
    | val τ =>
      obtain ⟨x, y', hx, hy', e⟩ := getAll_val hy
      have e := e k
      obtain ⟨cv, hrun, hcv⟩ := rv_ok h ht t (getRO_known (o := .val τ) hx)
      obtain ⟨cvs, ids, qs, rest, i1, i2, i3, i4, i5, i6, i7, i8⟩ := parts_ok h ht hF ps r k y' hy' hin.2
      rw [e]
      refine ⟨cv :: cvs, ids, qs, rest, ⟨hrun, i1⟩, by simpa [ownId] using i2, i3, i4, i5, by simp [simple2, simpleV, idFree, i6], by simp [i7], fun ν hν => ?_⟩
      simp only [RL]
      refine ⟨?_, i8 ν hν⟩
      have k := typed_ok h.mem hF hcv (by simpa [valArr] using hin.1) (x := x) hx
      simp only [R]
      cases hτ : τ.agg with
      | true => exact k.1 hτ
      | false => exact k.2 hτ
    | own τ =>
      obtain ⟨x, y', hx, hy', e⟩ := getAll_own hy
      have e := e k
      obtain ⟨cv, hrun, hcv⟩ := rv_ok h ht t (getRO_known (o := .own τ) hx)
      obtain ⟨cvs, ids, qs, rest, i1, i2, i3, i4, i5, i6, i7, i8⟩ := parts_ok h ht hF ps r (k + 1) y' hy' hin.2
      rw [e]
      have fin : ∀ (i : Option Nat) (q : MB), (ownId (rvV E s t) (.own τ) = i) → (∀ b, i = some b → ∃ y, s.m.at b = some y ∧ y.isFz = false ∧ μ b = some (some q)) → (i = none → q.a = none) → BoxRel F' B w noMu (.rows τ x) q → cv = .slice q.a q.len q.cap →
          ∃ cvs ids qs rest, RunL P a.tmps w (((t, RO.own τ) :: r).map (·.1)) cvs ∧ ids.filterMap id = ((t, RO.own τ) :: r).filterMap (fun p => ownId (rvV E s p.1) p.2) ∧ Owns F' B w μ s.m ids qs (Bx.rows τ x :: (resParts ps r y' (k + 1)).2.1) ∧
            getOuts s 0 ps = some rest ∧ (resParts ps r y' (k + 1)).2.2 = outsOf 0 ps rest ∧ (V.arr k :: (resParts ps r y' (k + 1)).1).all simple2 = true ∧ (V.arr k :: (resParts ps r y' (k + 1)).1).length = ((t, RO.own τ) :: r).length ∧
            ∀ ν : Mu, (∀ j q, qs[j]? = some q → ν (k + j) = some (some q)) → RL F' B w ν (V.arr k :: (resParts ps r y' (k + 1)).1) cvs := fun i q hi h1 h2 h3 h4 => by
        refine ⟨cv :: cvs, i :: ids, q :: qs, rest, ⟨hrun, i1⟩, ?_, ⟨⟨h1, h2, h3, rfl⟩, i3⟩, i4, i5, by simp [simple2, simpleV, i6], by simp [i7], fun ν hν => ?_⟩
        · cases i with
          | none => simp [hi, i2]
          | some b => simp [hi, i2]
        · simp only [RL]
          refine ⟨?_, i8 ν (fun j q hj => by have := hν (j + 1) q (by simpa using hj); rw [show k + (j + 1) = k + 1 + j by omega] at this; exact this)⟩
          have := hν 0 q (by simp)
          simp only [R]
          exact ⟨some q, by simpa using this, _, _, _, h4, fun q' e => by cases e; exact ⟨rfl, rfl, rfl⟩⟩
      rcases getRO_own hx with ⟨hv, rfl⟩ | ⟨b, hv, hb⟩
      · rw [hv] at hcv
        simp only [R] at hcv
        exact fin none ⟨none, 0, 0, τ.width⟩ (by rw [hv]; rfl) (fun b e => by cases e) (fun _ => rfl) ⟨rfl, Nat.le_refl _, rfl, fun _ => rfl, fun ad e => by cases e⟩ hcv
      · obtain ⟨q, e4, k1, k2, k3, k4, k5⟩ := h.mem.box b _ hb
        rw [hv] at hcv
        simp only [R] at hcv
        obtain ⟨o', e1, a0, n0, c0, e5, e3⟩ := hcv
        rw [e1] at e4; cases e4
        obtain ⟨rfl, rfl, rfl⟩ := e3 q rfl
        exact fin (some b) q (by rw [hv]; rfl) (fun c e => by cases e; exact ⟨_, hb, rfl, e1⟩) (fun e => by cases e)
          ⟨k1, k2, k3, k4, fun ad e => ⟨(k5 ad e).1, (k5 ad e).2.1.mono hF (keep_refl _ _) (fun _ _ e => e), (k5 ad e).2.2⟩⟩ e5
    | st τ =>
      obtain ⟨x, y', hx, hy', e⟩ := getAll_st hy
      have e := e k
      obtain ⟨cv, hrun, hcv⟩ := rv_ok h ht t (getRO_known (o := .st τ) hx)
      obtain ⟨cvs, ids, qs, rest, i1, i2, i3, i4, i5, i6, i7, i8⟩ := parts_ok h ht hF ps r (k + 1) y' hy' hin.2
      rw [e]
      obtain ⟨b, cs, hv, hb, hx'⟩ := getRO_st hx
      have hin1 : In F' μ s.m (cs.flatMap arrs1) := by
        have := hin.1
        rw [hv] at this
        simpa [valArr, cellsArr, hb] using this
      obtain ⟨q, e1, e2⟩ := st_box h.mem hF hb hin1 hx'
      have hid : ownId (rvV E s t) (.st τ) = some b := by rw [hv]; rfl
      rw [hv] at hcv
      simp only [R] at hcv
      obtain ⟨o', e3, p, e4, e5⟩ := hcv
      rw [e1] at e3; cases e3
      obtain ⟨ad, e6, rfl⟩ := e5 q rfl
      refine ⟨cv :: cvs, some b :: ids, q :: qs, rest, ⟨hrun, i1⟩, by simp [hid, i2], ⟨⟨fun c e => (by cases e; exact ⟨_, hb, rfl, e1⟩), fun e => (by cases e), e2, leafs_free _ _⟩, i3⟩, i4, i5, by simp [simple2, simpleV, i6], by simp [i7], fun ν hν => ?_⟩
      simp only [RL]
      refine ⟨?_, i8 ν (fun j q hj => by have := hν (j + 1) q (by simpa using hj); rw [show k + (j + 1) = k + 1 + j by omega] at this; exact this)⟩
      have := hν 0 q (by simp)
      simp only [R]
      exact ⟨some q, by simpa using this, _, e4, fun q' e => by cases e; exact ⟨ad, e6, rfl⟩⟩
    | mx τ off σ es =>
      obtain ⟨x, y', hx, hy', e⟩ := getAll_mx hy
      have e := e k
      obtain ⟨cv, hrun, hcv⟩ := rv_ok h ht t (getRO_known (o := .mx τ off σ es) hx)
      obtain ⟨cvs, ids, qs, rest, i1, i2, i3, i4, i5, i6, i7, i8⟩ := parts_ok h ht hF ps r (k + 1) y' hy' hin.2
      obtain ⟨cs, l, hv, hτ, hx', hl, hes, hown⟩ := getRO_mx hx
      rw [e, empL_ok hes]
      rw [hv] at hcv
      simp only [R] at hcv
      obtain ⟨us, rfl, hr⟩ := hcv
      have hin1 : In F' μ s.m ((cs.set off .nil).flatMap arrs1) := by
        have := hin.1
        rw [hv] at this
        simpa [valArr] using this
      have hw : off < τ.width := by
        have := (List.getElem?_eq_some_iff.1 (rowAt_some hl)).1
        rwa [leafs_width] at this
      obtain ⟨_, hlen, hg⟩ := asm_get s.m τ hx'
      obtain ⟨x0, hx0, hset⟩ := asm_set s.m τ hx' (rowAt_some hl)
      have hr0 : RL F B w μ (cs.set off .nil) (us.toList.set off (.slice none 0 0)) := RL.put hr (by simp only [R])
      obtain ⟨v1, v2, f1, f2, f3, _⟩ := asm_ok h.mem hF τ hr0 hin1 hx0
      have : v2 = [] := by cases v2 with
        | nil => rfl
        | cons _ _ => simp [RL] at f3
      subst this
      rw [List.append_nil] at f1; subst f1
      have hsim : simple2 (V.agg ((leafs τ x).set off (.arr k))) = true := by
        show List.all ((leafs τ x).set off (.arr k)) simpleV = true
        rw [List.all_eq_true]
        intro c hc
        rcases List.mem_or_eq_of_mem_set hc with hc | rfl
        · have := leafs_free τ x
          rw [List.all_eq_true] at this
          have := this c hc
          cases c <;> simp [idFree] at this <;> rfl
        · rfl
      have fin : ∀ (i : Option Nat) (q : MB), (ownId (rvV E s t) (.mx τ off σ es) = i) → (∀ b, i = some b → ∃ y, s.m.at b = some y ∧ y.isFz = false ∧ μ b = some (some q)) → (i = none → q.a = none) → BoxRel F' B w noMu (.rows σ l) q → us.toList[off]? = some (.slice q.a q.len q.cap) →
          ∃ cvs ids qs rest, RunL P a.tmps w (((t, RO.mx τ off σ es) :: r).map (·.1)) cvs ∧ ids.filterMap id = ((t, RO.mx τ off σ es) :: r).filterMap (fun p => ownId (rvV E s p.1) p.2) ∧ Owns F' B w μ s.m ids qs (Bx.rows σ ((rowAt (leafs τ x) off σ).getD []) :: (resParts ps r y' (k + 1)).2.1) ∧
            getOuts s 0 ps = some rest ∧ (resParts ps r y' (k + 1)).2.2 = outsOf 0 ps rest ∧ (V.agg ((leafs τ x).set off (.arr k)) :: (resParts ps r y' (k + 1)).1).all simple2 = true ∧ (V.agg ((leafs τ x).set off (.arr k)) :: (resParts ps r y' (k + 1)).1).length = ((t, RO.mx τ off σ es) :: r).length ∧
            ∀ ν : Mu, (∀ j q, qs[j]? = some q → ν (k + j) = some (some q)) → RL F' B w ν (V.agg ((leafs τ x).set off (.arr k)) :: (resParts ps r y' (k + 1)).1) cvs := fun i q hi h1 h2 h3 h4 => by
        refine ⟨.agg us :: cvs, i :: ids, q :: qs, rest, ⟨hrun, i1⟩, ?_, ⟨⟨h1, h2, by rw [hl]; exact h3, rfl⟩, i3⟩, i4, i5, by rw [List.all_cons, hsim, i6]; rfl, by simp [i7], fun ν hν => ?_⟩
        · cases i with
          | none => simp [hi, i2]
          | some b => simp [hi, i2]
        · simp only [RL]
          refine ⟨?_, i8 ν (fun j q hj => by have := hν (j + 1) q (by simpa using hj); rw [show k + (j + 1) = k + 1 + j by omega] at this; exact this)⟩
          have hν0 := hν 0 q (by simp)
          simp only [R]
          refine ⟨us, rfl, ?_⟩
          rw [hset]
          have k0 := RL.put (i := off) (leafs_ok (B := B) (μ := ν) τ f2) (v := .arr k) (cv := .slice q.a q.len q.cap) (by
            simp only [R]
            exact ⟨some q, by simpa using hν0, _, _, _, rfl, fun q' e => by cases e; exact ⟨rfl, rfl, rfl⟩⟩)
          rwa [List.set_set, set_same h4] at k0
      rcases hown with hc | ⟨b, hc, l', hb⟩
      · obtain ⟨ρ, z, hz, hz1⟩ := hg off hw _ hc
        rw [rowAt_some hl] at hz
        cases hz
        have hz1 : some ([] : List (D σ)) = some l := hz1
        cases hz1
        obtain ⟨cv, hcv, hrc⟩ := RL.get hr hc
        simp only [R] at hrc
        subst hrc
        exact fin none ⟨none, 0, 0, σ.width⟩ (by rw [hv]; simp [ownId, hc, idArr]) (fun b e => by cases e) (fun _ => rfl) ⟨rfl, Nat.le_refl _, rfl, fun _ => rfl, fun ad e => by cases e⟩ hcv
      · obtain ⟨ρ, z, hz, hz1⟩ := hg off hw _ hc
        rw [rowAt_some hl] at hz
        cases hz
        simp only [typed1, rowsOf, hb] at hz1
        obtain ⟨e1, rfl⟩ := castD_some hz1
        obtain ⟨cv, hcv, hrc⟩ := RL.get hr hc
        simp only [R] at hrc
        obtain ⟨o', e1, a0, n0, c0, rfl, e3⟩ := hrc
        obtain ⟨q, e4, k1, k2, k3, k4, k5⟩ := h.mem.box b _ hb
        rw [e1] at e4; cases e4
        obtain ⟨rfl, rfl, rfl⟩ := e3 q rfl
        exact fin (some b) q (by rw [hv]; simp [ownId, hc, idArr]) (fun c e => by cases e; exact ⟨_, hb, rfl, e1⟩) (fun e => by cases e)
          ⟨k1, k2, k3, k4, fun ad e => ⟨(k5 ad e).1, (k5 ad e).2.1.mono hF (keep_refl _ _) (fun _ _ e => e), (k5 ad e).2.2⟩⟩ hcv
end
end Go.E

set_option linter.unusedVariables false
namespace Go.E
open Go Go.RowKit

/-! A function's beginning. -/

section
variable {P : Program} {E : Env} {G : List (Nat × List V)} {w0 : World} {Ob A B F F' : Nat → Prop} {μ : Mu} {m : Hp} {w : World} {s : St} {a : Act} {v : V} {io : Nat → Option MB}

theorem keys_ge : ∀ (ps : List PT) (i j : Nat), j ∈ keys i ps → i ≤ j ∧ j < i + ps.length
  | [], _, _, h => by simp [keys] at h
  | p :: ps, i, j, h => by
    have go : j ∈ keys (i + 1) ps → i ≤ j ∧ j < i + (p :: ps).length := fun h => by
      have := keys_ge ps (i + 1) j h
      simp only [List.length_cons]; omega
    have own : j ∈ i :: keys (i + 1) ps → i ≤ j ∧ j < i + (p :: ps).length := fun h => by
      rcases List.mem_cons.1 h with rfl | h
      · simp only [List.length_cons]; omega
      · exact go h
    cases p with
    | val τ => exact go h
    | rc τ => exact go h
    | fn f cs => exact go h
    | st τ => exact own h
    | io τ => exact own h
    | mx τ off σ => exact own h

theorem offs_ge : ∀ (ps : List PT) (i j : Nat), j < i → look (offsK i ps) j = none
  | [], _, _, _ => rfl
  | p :: ps, i, j, h => by
    have go := offs_ge ps (i + 1) j (by omega)
    cases p with
    | mx τ off σ => simp only [offsK, look]; rw [if_neg (by omega)]; exact go
    | _ => exact go

/-- The fields, told of the parameters from one on. -/
def OffsOk (offs : List (Nat × Nat)) (i : Nat) (ps : List PT) : Prop := ∀ j, i ≤ j → look offs j = look (offsK i ps) j

theorem OffsOk.tail {offs : List (Nat × Nat)} {i : Nat} {p : PT} {ps : List PT} (h : OffsOk offs i (p :: ps)) : OffsOk offs (i + 1) ps := fun j hj => by
  rw [h j (by omega)]
  cases p with
  | mx τ off σ => simp only [offsK, look]; rw [if_neg (by omega)]
  | _ => rfl

theorem outs_ok (hM : Mem G w0 Ob A B F μ s.m w) (hF : ∀ b, F b → F' b) : ∀ (ps : List PT) (i : Nat) (r : D (tupTy (outTys ps))), getOuts s i ps = some r → In F' μ s.m ((keys i ps).flatMap (cellsArr s.m)) →
    (∀ j x, (j, x) ∈ outsOf i ps r → j ∈ keys i ps ∧ ∃ q, μ j = some (some q) ∧ BoxRel F' B w noMu x q) ∧ (∀ j ∈ keys i ps, ∃ y, s.m.at j = some y ∧ y.isFz = false) ∧ (outsOf i ps r).map (·.1) = keys i ps
  | [], i, r, _, _ => ⟨fun j x h => by simp [outsOf] at h, fun j h => by simp [keys] at h, rfl⟩
  | .val τ :: ps, i, r, h, hin => outs_ok hM hF ps (i + 1) r h hin
  | .rc τ :: ps, i, r, h, hin => outs_ok hM hF ps (i + 1) r h hin
  | .fn _ _ :: ps, i, r, h, hin => outs_ok hM hF ps (i + 1) r h hin
  | .st τ :: ps, i, r, h, hin => by
    have hin' : In F' μ s.m (cellsArr s.m i) ∧ In F' μ s.m ((keys (i + 1) ps).flatMap (cellsArr s.m)) := by
      have e : (keys i (.st τ :: ps)).flatMap (cellsArr s.m) = cellsArr s.m i ++ (keys (i + 1) ps).flatMap (cellsArr s.m) := rfl
      rw [e, In.app] at hin; exact hin
    have h' : (match getOut s i τ with
      | some x => match getOuts s (i + 1) ps with
        | some r => some (consT (τ := τ) x (outTys ps) r)
        | none => none
      | none => none) = some r := h
    split at h'
    case h_2 => cases h'
    rename_i x hx
    split at h'
    case h_2 => cases h'
    rename_i r' hr'
    have h' := Option.some.inj h'
    obtain ⟨i1, i2, i3⟩ := outs_ok hM hF ps (i + 1) r' hr' hin'.2
    have e : outsOf i (.st τ :: ps) r = (i, .cs (leafs τ x)) :: outsOf (i + 1) ps r' := by
      rw [← h']
      show (i, Bx.cs (leafs τ (headT (τ := τ) _ (consT (τ := τ) x (outTys ps) r')))) :: outsOf (i + 1) ps (tailT (τ := τ) _ (consT (τ := τ) x (outTys ps) r')) = _
      rw [headT_consT, tailT_consT]
    rw [e]
    unfold getOut at hx
    split at hx
    case h_2 => cases hx
    rename_i cs hb
    split at hx
    case h_2 => cases hx
    rename_i x' hx'
    simp only [Option.some.injEq] at hx
    subst hx
    obtain ⟨q, e1, e2⟩ := st_box (E := { L := [], G := G, C := [] }) hM hF hb (by have := hin'.1; simpa [cellsArr, hb] using this) hx'
    refine ⟨fun j y hj => ?_, fun j hj => ?_, by simp [i3, keys]⟩
    · rcases List.mem_cons.1 hj with e | hj
      · cases e; exact ⟨by simp [keys], q, e1, e2⟩
      · obtain ⟨k1, k2⟩ := i1 j y hj
        exact ⟨List.mem_cons_of_mem _ k1, k2⟩
    · rcases List.mem_cons.1 hj with e | hj
      · subst e; exact ⟨_, hb, rfl⟩
      · exact i2 j hj
  | .io τ :: ps, i, r, h, hin => by
    have hin' : In F' μ s.m (cellsArr s.m i) ∧ In F' μ s.m ((keys (i + 1) ps).flatMap (cellsArr s.m)) := by
      have e : (keys i (.io τ :: ps)).flatMap (cellsArr s.m) = cellsArr s.m i ++ (keys (i + 1) ps).flatMap (cellsArr s.m) := rfl
      rw [e, In.app] at hin; exact hin
    have h' : (match getIo s i τ with
      | some x => match getOuts s (i + 1) ps with
        | some r => some (consT (τ := .sl τ) x (outTys ps) r)
        | none => none
      | none => none) = some r := h
    split at h'
    case h_2 => cases h'
    rename_i x hx
    split at h'
    case h_2 => cases h'
    rename_i r' hr'
    have h' := Option.some.inj h'
    obtain ⟨i1, i2, i3⟩ := outs_ok hM hF ps (i + 1) r' hr' hin'.2
    have e : outsOf i (.io τ :: ps) r = (i, .rows τ x) :: outsOf (i + 1) ps r' := by
      rw [← h']
      show (i, Bx.rows τ (headT (τ := .sl τ) _ (consT (τ := .sl τ) x (outTys ps) r'))) :: outsOf (i + 1) ps (tailT (τ := .sl τ) _ (consT (τ := .sl τ) x (outTys ps) r')) = _
      rw [headT_consT, tailT_consT]
    rw [e]
    unfold getIo at hx
    split at hx
    case h_2 => cases hx
    rename_i σ l hb
    obtain ⟨e0, rfl⟩ := castD_some hx
    cases e0
    obtain ⟨q, e1, k1, k2, k3, k4, k5⟩ := hM.box i _ hb
    refine ⟨fun j y hj => ?_, fun j hj => ?_, by simp [i3, keys]⟩
    · rcases List.mem_cons.1 hj with e | hj
      · cases e
        exact ⟨by simp [keys], q, e1, k1, k2, k3, k4, fun ad e => ⟨(k5 ad e).1, (k5 ad e).2.1.mono hF (keep_refl _ _) (fun _ _ e => e), (k5 ad e).2.2⟩⟩
      · obtain ⟨k1, k2⟩ := i1 j y hj
        exact ⟨List.mem_cons_of_mem _ k1, k2⟩
    · rcases List.mem_cons.1 hj with e | hj
      · subst e; exact ⟨_, hb, rfl⟩
      · exact i2 j hj

  | .mx τ0 off0 τ :: ps, i, r, h, hin => by
    have hin' : In F' μ s.m (cellsArr s.m i) ∧ In F' μ s.m ((keys (i + 1) ps).flatMap (cellsArr s.m)) := by
      have e : (keys i (.mx τ0 off0 τ :: ps)).flatMap (cellsArr s.m) = cellsArr s.m i ++ (keys (i + 1) ps).flatMap (cellsArr s.m) := rfl
      rw [e, In.app] at hin; exact hin
    have h' : (match getIo s i τ with
      | some x => match getOuts s (i + 1) ps with
        | some r => some (consT (τ := .sl τ) x (outTys ps) r)
        | none => none
      | none => none) = some r := h
    split at h'
    case h_2 => cases h'
    rename_i x hx
    split at h'
    case h_2 => cases h'
    rename_i r' hr'
    have h' := Option.some.inj h'
    obtain ⟨i1, i2, i3⟩ := outs_ok hM hF ps (i + 1) r' hr' hin'.2
    have e : outsOf i (.mx τ0 off0 τ :: ps) r = (i, .rows τ x) :: outsOf (i + 1) ps r' := by
      rw [← h']
      show (i, Bx.rows τ (headT (τ := .sl τ) _ (consT (τ := .sl τ) x (outTys ps) r'))) :: outsOf (i + 1) ps (tailT (τ := .sl τ) _ (consT (τ := .sl τ) x (outTys ps) r')) = _
      rw [headT_consT, tailT_consT]
    rw [e]
    unfold getIo at hx
    split at hx
    case h_2 => cases hx
    rename_i σ l hb
    obtain ⟨e0, rfl⟩ := castD_some hx
    cases e0
    obtain ⟨q, e1, k1, k2, k3, k4, k5⟩ := hM.box i _ hb
    refine ⟨fun j y hj => ?_, fun j hj => ?_, by simp [i3, keys]⟩
    · rcases List.mem_cons.1 hj with e | hj
      · cases e
        exact ⟨by simp [keys], q, e1, k1, k2, k3, k4, fun ad e => ⟨(k5 ad e).1, (k5 ad e).2.1.mono hF (keep_refl _ _) (fun _ _ e => e), (k5 ad e).2.2⟩⟩
      · obtain ⟨k1, k2⟩ := i1 j y hj
        exact ⟨List.mem_cons_of_mem _ k1, k2⟩
    · rcases List.mem_cons.1 hj with e | hj
      · subst e; exact ⟨_, hb, rfl⟩
      · exact i2 j hj

def avOf : PT → V → AV
  | .st _, .rc cs => .st cs
  | .io _, .val (.sl e) l => .io e l
  | .mx _ off σ, .val ρ x => (match rowAt (leafs ρ x) off σ with
    | some l => .mx (leafs ρ x) off σ l
    | none => .fr (.val ρ x))
  | _, v => .fr v

def avsOf : List PT → List V → List AV
  | p :: ps, v :: vs => avOf p v :: avsOf ps vs
  | _, _ => []

theorem takeArgs_cons {p : PT} {ps : List PT} {args : List V} {x : D (tupTy ((p :: ps).map PT.ty))} (h : takeArgs (p :: ps) args = some x) :
    ∃ v vs, args = v :: vs ∧ takeArg p v = some (headT (τ := p.ty) (ps.map PT.ty) x) ∧ takeArgs ps vs = some (tailT (τ := p.ty) (ps.map PT.ty) x) := by
  cases ps with
  | nil =>
    cases args with
    | nil => cases h
    | cons v vs =>
      cases vs with
      | nil => exact ⟨v, [], rfl, h, rfl⟩
      | cons _ _ => cases h
  | cons q r =>
    cases args with
    | nil => cases h
    | cons v vs =>
      have h' : (match takeArg p v with
        | some x => match takeArgs (q :: r) vs with
          | some y => some ((x, y) : D (tupTy ((p :: q :: r).map PT.ty)))
          | none => none
        | none => none) = some x := h
      split at h'
      case h_2 => cases h'
      rename_i a ha
      split at h'
      case h_2 => cases h'
      rename_i b hb
      have h' := Option.some.inj h'
      subst h'
      exact ⟨v, vs, rfl, ha, hb⟩

theorem take_mx {τ : Ty} {off : Nat} {σ : Ty} {ρ : Ty} {y : D ρ} {z : D τ} (h : takeArg (.mx τ off σ) (.val ρ y) = some z) : ∃ l, ρ = τ ∧ ρ.agg = true ∧ rowAt (leafs ρ y) off σ = some l ∧ HEq z y := by
  have h : (match castD (τ := ρ) (σ := τ) y with
    | some x => if τ.agg = true then (match rowAt (leafs τ x) off σ with
      | some _ => some x
      | none => none) else none
    | none => none) = some z := h
  split at h
  case h_2 => cases h
  rename_i x hx
  obtain ⟨e, rfl⟩ := castD_some hx
  subst e
  split at h
  case isFalse => cases h
  rename_i hτ
  split at h
  case h_2 => cases h
  rename_i l hl
  have h := Option.some.inj h
  subst h
  exact ⟨l, rfl, hτ, hl, HEq.rfl⟩

theorem match_ok {offs : List (Nat × Nat)} {o : List Nat} : ∀ (ps : List PT) (i : Nat) (args : List V) (x : D (tupTy (ps.map PT.ty))), takeArgs ps args = some x → (∀ j, i ≤ j → (j ∈ o ↔ j ∈ keys i ps)) → OffsOk offs i ps → Match offs o i args (avsOf ps args)
  | [], i, args, x, h, _, _ => by
    cases args with
    | nil => trivial
    | cons v vs => cases h
  | p :: ps, i, args, x, h, ho, hoff => by
    obtain ⟨v, vs, rfl, h1, h2⟩ := takeArgs_cons h
    have hgt : i ∉ keys (i + 1) ps := fun hm => by have := (keys_ge ps (i + 1) i hm).1; omega
    refine ⟨?_, match_ok ps (i + 1) vs _ h2 (fun j hj => ?_) hoff.tail⟩
    · cases p with
      | val τ => exact ⟨rfl, fun hm => hgt ((ho i (Nat.le_refl _)).1 hm)⟩
      | rc τ => exact ⟨rfl, fun hm => hgt ((ho i (Nat.le_refl _)).1 hm)⟩
      | fn f cs => exact ⟨rfl, fun hm => hgt ((ho i (Nat.le_refl _)).1 hm)⟩
      | st τ =>
        cases v with
        | rc cs => exact ⟨rfl, (ho i (Nat.le_refl _)).2 (by simp [keys])⟩
        | _ => cases h1
      | io τ =>
        cases v with
        | val σ y =>
          obtain ⟨e, _⟩ := castD_some h1
          cases e
          exact ⟨rfl, (ho i (Nat.le_refl _)).2 (by simp [keys])⟩
        | _ => cases h1
      | mx τ off σ =>
        cases v with
        | val ρ y =>
          obtain ⟨l, e1, e2, e3, e4⟩ := take_mx h1
          subst e1
          have e5 : avOf (.mx ρ off σ) (.val ρ y) = .mx (leafs ρ y) off σ l := by simp only [avOf, e3]
          rw [e5]
          refine ⟨⟨ρ, y, rfl, e2, rfl, e3⟩, (ho i (Nat.le_refl _)).2 (by simp [keys]), ?_⟩
          rw [hoff i (Nat.le_refl _)]
          simp [offsK, look]
        | _ => cases h1
    · rw [ho j (by omega)]
      cases p with
      | val τ => exact Iff.rfl
      | rc τ => exact Iff.rfl
      | fn f cs => exact Iff.rfl
      | st τ => simp only [keys, List.mem_cons]; exact ⟨fun h => h.resolve_left (by omega), .inr⟩
      | io τ => simp only [keys, List.mem_cons]; exact ⟨fun h => h.resolve_left (by omega), .inr⟩
      | mx τ off σ => simp only [keys, List.mem_cons]; exact ⟨fun h => h.resolve_left (by omega), .inr⟩

theorem initT_val (i : Nat) (τ : Ty) (ps : List PT) (x : D (tupTy ((PT.val τ :: ps).map PT.ty))) : initT i (.val τ :: ps) x = ((i, .val τ (headT (τ := τ) (ps.map PT.ty) x)) :: (initT (i + 1) ps (tailT (τ := τ) (ps.map PT.ty) x)).1, (initT (i + 1) ps (tailT (τ := τ) (ps.map PT.ty) x)).2) := by
  cases ps <;> rfl
theorem initT_st (i : Nat) (τ : Ty) (ps : List PT) (x : D (tupTy ((PT.st τ :: ps).map PT.ty))) : initT i (.st τ :: ps) x = ((i, .ptr i 0) :: (initT (i + 1) ps (tailT (τ := τ) (ps.map PT.ty) x)).1, (i, some (.cs (leafs τ (headT (τ := τ) (ps.map PT.ty) x)))) :: (initT (i + 1) ps (tailT (τ := τ) (ps.map PT.ty) x)).2) := by
  cases ps <;> rfl
theorem initT_io (i : Nat) (τ : Ty) (ps : List PT) (x : D (tupTy ((PT.io τ :: ps).map PT.ty))) : initT i (.io τ :: ps) x = ((i, .arr i) :: (initT (i + 1) ps (tailT (τ := .sl τ) (ps.map PT.ty) x)).1, (i, some (.rows τ (headT (τ := .sl τ) (ps.map PT.ty) x))) :: (initT (i + 1) ps (tailT (τ := .sl τ) (ps.map PT.ty) x)).2) := by
  cases ps <;> rfl
theorem initT_rc (i : Nat) (τ : Ty) (ps : List PT) (x : D (tupTy ((PT.rc τ :: ps).map PT.ty))) : initT i (.rc τ :: ps) x = ((i, .rc (leafs τ (headT (τ := τ) (ps.map PT.ty) x))) :: (initT (i + 1) ps (tailT (τ := τ) (ps.map PT.ty) x)).1, (initT (i + 1) ps (tailT (τ := τ) (ps.map PT.ty) x)).2) := by
  cases ps <;> rfl
theorem initT_fn (i : Nat) (f : Nat) (cs : List CT) (ps : List PT) (x : D (tupTy ((PT.fn f cs :: ps).map PT.ty))) : initT i (.fn f cs :: ps) x = ((i, .fn f (capsV cs (headT (τ := tupTy (cs.map CT.ty)) (ps.map PT.ty) x))) :: (initT (i + 1) ps (tailT (τ := tupTy (cs.map CT.ty)) (ps.map PT.ty) x)).1, (initT (i + 1) ps (tailT (τ := tupTy (cs.map CT.ty)) (ps.map PT.ty) x)).2) := by
  cases ps <;> rfl

theorem initT_mx (i : Nat) (τ : Ty) (off : Nat) (σ : Ty) (ps : List PT) (x : D (tupTy ((PT.mx τ off σ :: ps).map PT.ty))) {l : List (D σ)} (hl : rowAt (leafs τ (headT (τ := τ) (ps.map PT.ty) x)) off σ = some l) : initT i (.mx τ off σ :: ps) x = ((i, .agg ((leafs τ (headT (τ := τ) (ps.map PT.ty) x)).set off (.arr i))) :: (initT (i + 1) ps (tailT (τ := τ) (ps.map PT.ty) x)).1, (i, some (.rows σ l)) :: (initT (i + 1) ps (tailT (τ := τ) (ps.map PT.ty) x)).2) := by
  cases ps with
  | nil =>
    have hl : rowAt (leafs τ x) off σ = some l := hl
    show (match rowAt (leafs τ x) off σ with
      | some l => ([(i, V.agg ((leafs τ x).set off (.arr i)))], [(i, some (Bx.rows σ l))])
      | none => ([], [])) = _
    rw [hl]; rfl
  | cons q r =>
    have hl : rowAt (leafs τ x.1) off σ = some l := hl
    show (match initT (i + 1) (q :: r) x.2 with
      | (ts, m) => match rowAt (leafs τ x.1) off σ with
        | some l => ((i, V.agg ((leafs τ x.1).set off (.arr i))) :: ts, (i, some (Bx.rows σ l)) :: m)
        | none => (ts, m)) = _
    rw [hl]; rfl

theorem cap_ok (h0 : Mem G w0 Ob A B A noMu [] w) {μ0 : Mu} : ∀ (c : CT) (v : V) (y : D c.ty) (cv : Value), takeCap c v = some y → R A B w noMu v cv → R A B w μ0 (capV c y) cv
  | .val τ, v, y, cv, h, hr => by
    cases v with
    | val σ x0 =>
      obtain ⟨e, rfl⟩ := castD_some h
      cases e
      exact idFree_R (fun _ h => h) (keep_refl _ _) rfl hr
    | _ => cases h
  | .rc τ, v, y, cv, h, hr => by
    cases v with
    | rc cs =>
      have h1' : (match asm [] τ cs with
        | some (x, []) => some x
        | _ => none) = some y := h
      split at h1'
      · rename_i x' hx'
        cases h1'
        simp only [R] at hr
        obtain ⟨ad, us, e1, e2, e3, e4, e5⟩ := hr
        obtain ⟨v1, v2, f1, f2, f3, _⟩ := asm_ok h0 (fun _ h => h) τ e4 (fun b _ τ r q ad hb => by cases hb) hx'
        have : v2 = [] := by cases v2 with
          | nil => rfl
          | cons _ _ => simp [RL] at f3
        subst this
        rw [List.append_nil] at f1; subst f1
        simp only [capV, R]
        exact ⟨ad, us, e1, e2, e3, leafs_ok τ f2, e5⟩
      · cases h1'
    | _ => cases h

theorem caps_ok (h0 : Mem G w0 Ob A B A noMu [] w) {μ0 : Mu} : ∀ (cs : List CT) (caps : List V) (y : D (tupTy (cs.map CT.ty))) (vs : List Value), takeCaps cs caps = some y → RL A B w noMu caps vs → RL A B w μ0 (capsV cs y) vs
  | [], caps, y, vs, h, hr => by
    cases caps with
    | nil =>
      cases vs with
      | nil => simp [capsV, RL]
      | cons _ _ => simp [RL] at hr
    | cons _ _ => cases h
  | [c], caps, y, vs, h, hr => by
    cases caps with
    | nil => cases h
    | cons v r =>
      cases r with
      | cons _ _ => cases h
      | nil =>
        cases vs with
        | nil => simp [RL] at hr
        | cons cv vs =>
          simp only [RL] at hr
          have h : takeCap c v = some y := h
          simp only [capsV, RL]
          cases vs with
          | cons _ _ => simp [RL] at hr
          | nil => exact ⟨cap_ok h0 c v y cv h hr.1, trivial⟩
  | c :: d :: r, caps, y, vs, h, hr => by
    cases caps with
    | nil => cases h
    | cons v caps =>
      have h' : (match takeCap c v with
        | some x => match takeCaps (d :: r) caps with
          | some y => some ((x, y) : D (tupTy ((c :: d :: r).map CT.ty)))
          | none => none
        | none => none) = some y := h
      split at h'
      case h_2 => cases h'
      rename_i a ha
      split at h'
      case h_2 => cases h'
      rename_i b hb
      have h' := Option.some.inj h'
      subst h'
      cases vs with
      | nil => simp [RL] at hr
      | cons cv vs =>
        simp only [RL] at hr
        simp only [capsV, RL]
        exact ⟨cap_ok h0 c v a cv ha hr.1, caps_ok h0 (d :: r) caps b vs hb hr.2⟩

theorem init_ok (h0 : Mem G w0 Ob A B A noMu [] w) {μ0 : Mu} {o : List Nat} (hμ : ∀ j q, j ∈ o → io j = some q → μ0 j = some (some q)) :
    ∀ (ps : List PT) (i : Nat) (args : List V) (x : D (tupTy (ps.map PT.ty))) (vs : List Value), takeArgs ps args = some x → (∀ j ∈ keys i ps, j ∈ o) → ArgR A B w io i (avsOf ps args) vs →
      (∀ t v, look (initT i ps x).1 t = some v → i ≤ t ∧ ∃ cv, vs[t - i]? = some cv ∧ R A B w μ0 v cv) ∧
      (∀ b bx, Hp.at (initT i ps x).2 b = some bx → b ∈ keys i ps ∧ bx.isFz = false ∧ ∃ q, io b = some q ∧ BoxRel A B w μ0 bx q) ∧ vs.length = ps.length ∧ ∀ j ∈ keys i ps, ∃ q, io j = some q
  | [], i, args, x, vs, h, _, ha => by
    cases args with
    | cons v vs => cases h
    | nil =>
      cases vs with
      | cons _ _ => exact ha.elim
      | nil => exact ⟨fun t v e => (by cases e), fun b bx e => (by cases e), rfl, fun j hj => (by simp [keys] at hj)⟩
  | p :: ps, i, args, x, vs, h, ho, ha => by
    obtain ⟨v, args', rfl, h1, h2⟩ := takeArgs_cons h
    obtain ⟨z, hz⟩ : ∃ z, z = tailT (τ := p.ty) (ps.map PT.ty) x := ⟨_, rfl⟩
    rw [← hz] at h2
    cases vs with
    | nil => exact ha.elim
    | cons cv vs =>
      simp only [avsOf, ArgR] at ha
      obtain ⟨ha1, ha2⟩ := ha
      have ho' : ∀ j ∈ keys (i + 1) ps, j ∈ o := fun j hj => ho j (by cases p <;> first | exact hj | exact List.mem_cons_of_mem _ hj)
      obtain ⟨i1, i2, i3, i4⟩ := init_ok h0 hμ ps (i + 1) args' z vs h2 ho' ha2
      have tmp : ∀ u, R A B w μ0 u cv → ∀ t v, look ((i, u) :: (initT (i + 1) ps z).1) t = some v → i ≤ t ∧ ∃ cv', (cv :: vs)[t - i]? = some cv' ∧ R A B w μ0 v cv' := fun u hu t v e => by
        rw [look_cons] at e
        split at e
        · rename_i e'; subst e'; cases e; exact ⟨Nat.le_refl _, cv, by simp, hu⟩
        · obtain ⟨k1, cv', k2, k3⟩ := i1 t v e
          exact ⟨by omega, cv', by rw [show t - i = (t - (i + 1)) + 1 by omega]; simpa using k2, k3⟩
      have box : ∀ (bx : Bx) q, (∀ j ∈ keys (i + 1) ps, j ∈ keys i (p :: ps)) → i ∈ keys i (p :: ps) → bx.isFz = false → io i = some q → BoxRel A B w μ0 bx q →
          ∀ b bx', Hp.at ((i, some bx) :: (initT (i + 1) ps z).2) b = some bx' → b ∈ keys i (p :: ps) ∧ bx'.isFz = false ∧ ∃ q, io b = some q ∧ BoxRel A B w μ0 bx' q := fun bx q hk hi hz hq hb b bx' e => by
        rw [Hp.at_cons] at e
        split at e
        · rename_i e'; subst e'; cases e; exact ⟨hi, hz, q, hq, hb⟩
        · obtain ⟨k1, k2⟩ := i2 b bx' e; exact ⟨hk b k1, k2⟩
      cases p with
      | val τ =>
        rw [initT_val, show tailT (τ := τ) (ps.map PT.ty) x = z from hz.symm]
        have h1 : takeArg (.val τ) v = some (headT (τ := τ) (ps.map PT.ty) x) := h1
        generalize headT (τ := τ) (ps.map PT.ty) x = y at h1
        have ha1 : R A B w noMu v cv := by
          have e : avOf (.val τ) v = .fr v := rfl
          rw [e] at ha1; exact ha1
        cases v with
        | val σ x0 =>
          obtain ⟨e, rfl⟩ := castD_some h1
          cases e
          exact ⟨tmp _ (idFree_R (fun _ h => h) (keep_refl _ _) rfl ha1), i2, by simp [i3], i4⟩
        | _ => cases h1
      | rc τ =>
        rw [initT_rc, show tailT (τ := τ) (ps.map PT.ty) x = z from hz.symm]
        have h1 : takeArg (.rc τ) v = some (headT (τ := τ) (ps.map PT.ty) x) := h1
        generalize headT (τ := τ) (ps.map PT.ty) x = y at h1
        have ha1 : R A B w noMu v cv := by
          have e : avOf (.rc τ) v = .fr v := rfl
          rw [e] at ha1; exact ha1
        cases v with
        | rc cs =>
          have h1' : (match asm [] τ cs with
            | some (x, []) => some x
            | _ => none) = some y := h1
          split at h1'
          · rename_i x' hx'
            cases h1'
            simp only [R] at ha1
            obtain ⟨ad, us, e1, e2, e3, e4, e5⟩ := ha1
            obtain ⟨v1, v2, f1, f2, f3, _⟩ := asm_ok h0 (fun _ h => h) τ e4 (fun b _ τ r q ad hb => by cases hb) hx'
            have : v2 = [] := by cases v2 with
              | nil => rfl
              | cons _ _ => simp [RL] at f3
            subst this
            rw [List.append_nil] at f1; subst f1
            refine ⟨tmp _ ?_, i2, by simp [i3], i4⟩
            simp only [R]
            exact ⟨ad, us, e1, e2, e3, leafs_ok τ f2, e5⟩
          · cases h1'
        | _ => cases h1
      | fn f cs =>
        rw [initT_fn, show tailT (τ := tupTy (cs.map CT.ty)) (ps.map PT.ty) x = z from hz.symm]
        have h1 : takeArg (.fn f cs) v = some (headT (τ := tupTy (cs.map CT.ty)) (ps.map PT.ty) x) := h1
        generalize headT (τ := tupTy (cs.map CT.ty)) (ps.map PT.ty) x = y at h1
        have ha1 : R A B w noMu v cv := by
          have e : avOf (.fn f cs) v = .fr v := rfl
          rw [e] at ha1; exact ha1
        cases v with
        | fn g caps =>
          have h1' : (if f = g then takeCaps cs caps else none) = some y := h1
          split at h1'
          case isFalse => cases h1'
          rename_i e; subst e
          simp only [R] at ha1
          obtain ⟨captured, e1, e2⟩ := ha1
          refine ⟨tmp _ ?_, i2, by simp [i3], i4⟩
          simp only [R]
          exact ⟨captured, e1, caps_ok h0 cs caps y captured.toList h1' e2⟩
        | _ => cases h1
      | st τ =>
        rw [initT_st, show tailT (τ := τ) (ps.map PT.ty) x = z from hz.symm]
        have h1 : takeArg (.st τ) v = some (headT (τ := τ) (ps.map PT.ty) x) := h1
        generalize headT (τ := τ) (ps.map PT.ty) x = y at h1
        cases v with
        | rc cs =>
          have ha1 : ∃ q ad, io i = some q ∧ q.a = some ad ∧ cv = .pointer (some ⟨ad.block, ad.off, none⟩) ∧ BoxRel A B w noMu (.cs cs) q := ha1
          obtain ⟨q, ad, e1, e2, e3, ad', us, e4, e5, e6, e7, e8⟩ := ha1
          rw [e2] at e4; cases e4
          have h1' : (match asm [] τ cs with
            | some (x, []) => some x
            | _ => none) = some y := h1
          split at h1'
          · rename_i x' hx'
            cases h1'
            obtain ⟨v1, v2, f1, f2, f3, _⟩ := asm_ok h0 (fun _ h => h) τ e6 (fun b _ τ r q ad hb => by cases hb) hx'
            have : v2 = [] := by cases v2 with
              | nil => rfl
              | cons _ _ => simp [RL] at f3
            subst this
            rw [List.append_nil] at f1; subst f1
            have k := leafs_ok (B := B) (μ := μ0) τ f2
            have hi := ho i (by simp [keys])
            refine ⟨tmp _ ?_, box (.cs (leafs τ y)) q (fun j hj => List.mem_cons_of_mem _ hj) (by simp [keys]) rfl e1 ⟨ad, us, e2, e5, k, e7, by rw [RL.len k, ← RL.len e6]; exact e8⟩, by simp [i3], fun j hj => ?_⟩
            · simp only [R]
              exact ⟨some q, hμ i q hi e1, _, e3, fun q' e => by cases e; exact ⟨ad, e2, by simp⟩⟩
            · rcases List.mem_cons.1 hj with rfl | hj
              · exact ⟨q, e1⟩
              · exact i4 j hj
          · cases h1'
        | _ => cases h1
      | io τ =>
        rw [initT_io, show tailT (τ := .sl τ) (ps.map PT.ty) x = z from hz.symm]
        have h1 : takeArg (.io τ) v = some (headT (τ := .sl τ) (ps.map PT.ty) x) := h1
        generalize headT (τ := .sl τ) (ps.map PT.ty) x = y at h1
        cases v with
        | val σ x0 =>
          obtain ⟨e, rfl⟩ := castD_some h1
          cases e
          have ha1 : ∃ q, io i = some q ∧ cv = .slice q.a q.len q.cap ∧ BoxRel A B w noMu (.rows τ x0) q := ha1
          obtain ⟨q, e1, e2, e3⟩ := ha1
          have hi := ho i (by simp [keys])
          refine ⟨tmp _ ?_, box (.rows τ x0) q (fun j hj => List.mem_cons_of_mem _ hj) (by simp [keys]) rfl e1 e3, by simp [i3], fun j hj => ?_⟩
          · simp only [R]
            exact ⟨some q, hμ i q hi e1, _, _, _, e2, fun q' e => by cases e; exact ⟨rfl, rfl, rfl⟩⟩
          · rcases List.mem_cons.1 hj with rfl | hj
            · exact ⟨q, e1⟩
            · exact i4 j hj
        | _ => cases h1
      | mx τ off σ =>
        have h1 : takeArg (.mx τ off σ) v = some (headT (τ := τ) (ps.map PT.ty) x) := h1
        cases v with
        | val ρ x0 =>
          obtain ⟨l, e1, e2, e3, e4⟩ := take_mx h1
          subst e1
          have e4 := eq_of_heq e4
          rw [initT_mx i ρ off σ ps x (l := l) (by rw [e4]; exact e3), show tailT (τ := ρ) (ps.map PT.ty) x = z from hz.symm, e4]
          have e5 : avOf (.mx ρ off σ) (.val ρ x0) = .mx (leafs ρ x0) off σ l := by simp only [avOf, e3]
          rw [e5] at ha1
          obtain ⟨q, us, k1, rfl, k3, k4, k5⟩ := ha1
          have hi := ho i (by simp [keys])
          refine ⟨tmp _ ?_, box (.rows σ l) q (fun j hj => List.mem_cons_of_mem _ hj) (by simp [keys]) rfl k1 k5, by simp [i3], fun j hj => ?_⟩
          · simp only [R]
            refine ⟨us, rfl, RL_swap (fun _ h => h) (keep_refl _ _) k3 k4 ?_ (all_set (leafs_free _ _) rfl)⟩
            simp only [R]
            exact ⟨some q, hμ i q hi k1, _, _, _, rfl, fun q' e => by cases e; exact ⟨rfl, rfl, rfl⟩⟩
          · rcases List.mem_cons.1 hj with rfl | hj
            · exact ⟨q, k1⟩
            · exact i4 j hj
        | _ => cases h1
end
end Go.E

set_option linter.unusedVariables false
namespace Go.E
open Go Go.RowKit

section
variable {P : Program} {E : Env} {G : List (Nat × List V)} {w0 : World} {Ob A B F F' : Nat → Prop} {μ : Mu} {m : Hp} {w : World} {s : St} {a : Act} {v : V} {io : Nat → Option MB}

theorem nodupB_ok : ∀ {l : List Nat}, nodupB l = true → l.Nodup
  | [], _ => List.nodup_nil
  | i :: r, h => by
    simp only [nodupB, Bool.and_eq_true, Bool.not_eq_true'] at h
    exact List.nodup_cons.2 ⟨by simpa using h.1, nodupB_ok h.2⟩

theorem Owns.get : ∀ {is : List (Option Nat)} {qs : List MB} {bs : List Bx}, Owns F' B w μ m is qs bs → is.length = bs.length ∧ qs.length = bs.length ∧
    ∀ (i : Nat) x, bs[i]? = some x → ∃ o q, is[i]? = some o ∧ qs[i]? = some q ∧ (∀ b, o = some b → ∃ y, m.at b = some y ∧ y.isFz = false ∧ μ b = some (some q)) ∧ (o = none → q.a = none) ∧ BoxRel F' B w noMu x q
  | [], [], [], _ => ⟨rfl, rfl, fun i x h => by simp at h⟩
  | i :: is, q :: qs, b :: bs, h => by
    obtain ⟨h1, h2⟩ := h
    obtain ⟨k1, k2, k3⟩ := Owns.get h2
    refine ⟨by simp [k1], by simp [k2], fun j x hj => ?_⟩
    cases j with
    | zero => simp at hj; subst hj; exact ⟨i, q, by simp, by simp, h1.1, h1.2.1, h1.2.2.1⟩
    | succ j => simp at hj; obtain ⟨o, p, e1, e2, e3⟩ := k3 j x hj; exact ⟨o, p, by simpa using e1, by simpa using e2, e3⟩
  | [], [], _ :: _, h => h.elim
  | [], _ :: _, _, h => h.elim
  | _ :: _, [], _, h => h.elim
  | _ :: _, _ :: _, [], h => h.elim

theorem filterMap_inj : ∀ {l : List (Option Nat)}, (l.filterMap id).Nodup → ∀ (i j b : Nat), l[i]? = some (some b) → l[j]? = some (some b) → i = j
  | [], _, i, j, b, h, _ => by simp at h
  | o :: l, hn, i, j, b, hi, hj => by
    have hmem : ∀ k, l[k]? = some (some b) → b ∈ l.filterMap id := fun k hk => List.mem_filterMap.2 ⟨some b, List.mem_of_getElem? hk, rfl⟩
    have hn' : (l.filterMap id).Nodup := by
      cases o with
      | none => simpa using hn
      | some c => simp at hn; exact hn.2
    cases i with
    | zero =>
      simp at hi; subst hi
      cases j with
      | zero => rfl
      | succ j =>
        simp at hj
        simp at hn
        exact absurd (List.mem_of_getElem? hj) hn.1
    | succ i =>
      simp at hi
      cases j with
      | zero =>
        simp at hj; subst hj
        simp at hn
        exact absurd (List.mem_of_getElem? hi) hn.1
      | succ j =>
        simp at hj
        rw [filterMap_inj hn' i j b hi hj]

theorem mem_filterMap_id {l : List (Option Nat)} {i b : Nat} (h : l[i]? = some (some b)) : b ∈ l.filterMap id := List.mem_filterMap.2 ⟨some b, List.mem_of_getElem? h, rfl⟩

/-- A function's end: what it hands back. -/
theorem ret_ok {N base : Nat} {μ0 : Mu} {ps : List PT} {ros : List (ResultVar × RO)} (hE : EnvC P E) (h : Rl E w0 (IOb io) A B N μ0 base F μ s a w) (hio : ∀ b, IOb io b → ¬ A b ∧ ¬ B b ∧ b < w0.heap.size)
    (hμ0 : ∀ j ∈ keys 0 ps, ∃ q, io j = some q ∧ μ0 j = some (some q)) (hdom : ∀ j q, io j = some q → j ∈ keys 0 ps) (hA : ∀ b, A b → b < w0.heap.size)
    {fn : Func} (hres : fn.results = (ros.map (·.1)).toArray) {y : D (tupTy (ros.map (·.2.ty) ++ outTys ps))} (hok : retOk E s ps ros = true) (hy : getAll E s ps ros = some y) :
    ∃ cv, (results fn a.tmps).run P w = .ok cv w ∧ ∃ F' μr, ResR A B w0 io (resOf ps ros y) w cv F' μr := by
  have hp := h.pre hE
  have hM := h.mem
  simp only [retOk, Bool.and_eq_true] at hok
  obtain ⟨hnd, hfz⟩ := hok
  have hnd := nodupB_ok hnd
  rw [List.all_eq_true] at hfz
  let fzL := ros.flatMap (fun p => valArr s.m (rvV E s p.1) p.2) ++ (keys 0 ps).flatMap (cellsArr s.m)
  let F' : Nat → Prop := fun b => F b ∨ ∃ c ∈ fzL, ∃ τ l q ad, s.m.at c = some (.rows τ l) ∧ μ c = some (some q) ∧ q.a = some ad ∧ b = ad.block
  have hF : ∀ b, F b → F' b := fun b => .inl
  have hin : ∀ l : List Nat, (∀ c ∈ l, c ∈ fzL) → In F' μ s.m l := fun l hl c hc τ r q ad h1 h2 h3 => .inr ⟨c, hl c hc, τ, r, q, ad, h1, h2, h3, rfl⟩
  obtain ⟨cvs, ids, qs, rest, i1, i2, i3, i4, i5, i6, i7, i8⟩ := parts_ok hp h.tmps hF ps ros 0 y hy (hin _ (fun c hc => List.mem_append_left _ hc))
  obtain ⟨o1, o2, o3⟩ := outs_ok hM hF ps 0 rest i4 (hin _ (fun c hc => List.mem_append_right _ hc))
  obtain ⟨g1, g2, g3⟩ := i3.get
  have hrun := results_run hres i1
  refine ⟨finV cvs, hrun, F', fun i => (qs[i]?).map some, ?_⟩
  -- the boxes handed in place
  have hkey : ∀ j ∈ keys 0 ps, ∃ q y, io j = some q ∧ μ j = some (some q) ∧ s.m.at j = some y ∧ y.isFz = false := fun j hj => by
    obtain ⟨q, e1, e2⟩ := hμ0 j hj
    obtain ⟨y, e3, e4⟩ := o2 j hj
    obtain ⟨q', e5, _⟩ := hM.box j y e3
    obtain ⟨o', e6, e7⟩ := h.keep j (some q) e2
    rw [e5] at e6
    cases e6
    rcases e7 with e7 | e7
    · cases e7
    · cases e7; exact ⟨q, y, e1, e5, e3, e4⟩
  have hIO : ∀ b, IOb io b → ∃ j q y ad, j ∈ keys 0 ps ∧ μ j = some (some q) ∧ s.m.at j = some y ∧ y.isFz = false ∧ q.a = some ad ∧ b = ad.block := by
    rintro b ⟨j, q, ad, e1, e2, e3⟩
    have hj := hdom j q e1
    obtain ⟨q', y, k1, k2, k3, k4⟩ := hkey j hj
    rw [e1] at k1; cases k1
    exact ⟨j, q, y, ad, hj, k2, k3, k4, e2, e3⟩
  have notF : ∀ j y q ad, s.m.at j = some y → y.isFz = false → μ j = some (some q) → q.a = some ad → j ∉ fzL → ¬ F' ad.block := by
    rintro j y q ad e1 e2 e3 e4 e5 (hf | ⟨c, hc, τ, l, q', ad', f1, f2, f3, f4⟩)
    · exact (hM.own j y q ad e1 e2 e3 e4).1 hf
    · have := hM.inj j c y _ q q' ad ad' e1 f1 e2 rfl e3 f2 e4 f3 f4
      subst this; exact e5 hc
  have hdis : ∀ c ∈ fzL, c ∉ ros.filterMap (fun p => ownId (rvV E s p.1) p.2) ++ keys 0 ps := fun c hc => by simpa using hfz c hc
  have hnd1 : (ids.filterMap id).Nodup := by rw [i2]; exact (List.nodup_append.1 hnd).1
  have hown : ∀ i b, ids[i]? = some (some b) → b ∈ ros.filterMap (fun p => ownId (rvV E s p.1) p.2) := fun i b hi => by rw [← i2]; exact mem_filterMap_id hi
  have newB : ∀ i b y q ad, ids[i]? = some (some b) → s.m.at b = some y → y.isFz = false → μ b = some (some q) → q.a = some ad → ¬ F' ad.block ∧ w0.heap.size ≤ ad.block ∧ ad.block < w.heap.size := fun i b y q ad e1 e2 e3 e4 e5 => by
    obtain ⟨_, _, k3, k4⟩ := hM.own b y q ad e2 e3 e4 e5
    have hb := hown i b e1
    refine ⟨notF b y q ad e2 e3 e4 e5 (fun hc => hdis b hc (List.mem_append_left _ hb)), ?_, k3⟩
    rcases k4 with k4 | k4
    · exact k4
    · obtain ⟨j, q', y', ad', j1, j2, j3, j4, j5, j6⟩ := hIO _ k4
      have := hM.inj b j y y' q q' ad ad' e2 j3 e3 j4 e4 j2 e5 j5 j6
      subst this
      exact absurd j1 ((List.nodup_append.1 hnd).2.2 b hb b · rfl)
  have res : ∀ vs bs os, resParts ps ros y 0 = (vs, bs, os) → (resOf ps ros y).bs = bs ∧ (resOf ps ros y).outs = os ∧ ((∃ v, vs = [v] ∧ (resOf ps ros y).v = v) ∨ ((∀ v, vs ≠ [v]) ∧ (resOf ps ros y).v = .tup vs)) := fun vs bs os e => by
    unfold resOf
    rw [e]
    match vs with
    | [] => exact ⟨rfl, rfl, .inr ⟨by simp, rfl⟩⟩
    | [v] => exact ⟨rfl, rfl, .inl ⟨v, rfl, rfl⟩⟩
    | _ :: _ :: _ => exact ⟨rfl, rfl, .inr ⟨by simp, rfl⟩⟩
  obtain ⟨r1, r2, r3⟩ := res _ _ _ rfl
  have hvals := i8 (fun i => (qs[i]?).map some) (fun j q hj => by simp [hj])
  constructor
  · exact hM.ext
  · rintro b (hf | ⟨c, hc, τ, l, q, ad, f1, f2, f3, rfl⟩)
    · obtain ⟨k1, k2⟩ := hM.fz b hf
      rcases k2 with k2 | k2 | k2
      · exact .inl k2
      · exact .inr ⟨k2, k1⟩
      · obtain ⟨j, q', y', ad', j1, j2, j3, j4, j5, rfl⟩ := hIO _ k2
        exact absurd hf (hM.own j y' q' ad' j3 j4 j2 j5).1
    · obtain ⟨_, _, k3, k4⟩ := hM.own c _ q ad f1 rfl f2 f3
      rcases k4 with k4 | k4
      · exact .inr ⟨k4, k3⟩
      · obtain ⟨j, q', y', ad', j1, j2, j3, j4, j5, j6⟩ := hIO _ k4
        have := hM.inj c j _ y' q q' ad ad' f1 j3 rfl j4 f2 j2 f3 j5 j6
        subst this
        exact absurd (List.mem_append_right _ j1) (hdis c hc)
  · rcases r3 with ⟨v, e1, e2⟩ | ⟨e1, e2⟩
    · rw [e2]
      rw [e1] at hvals
      cases cvs with
      | nil => simp [RL] at hvals
      | cons cv cvs =>
        simp only [RL] at hvals
        cases cvs with
        | nil => exact hvals.1
        | cons _ _ => simp [RL] at hvals
    · rw [e2]
      have hl := RL.len hvals
      simp only [R]
      cases cvs with
      | nil => exact ⟨_, rfl, by simpa using hvals⟩
      | cons cv cvs =>
        cases cvs with
        | nil =>
          simp at hl
          obtain ⟨v, hv⟩ := List.length_eq_one_iff.1 hl
          exact absurd hv (e1 v)
        | cons cv2 cvs => exact ⟨_, rfl, by simpa using hvals⟩
  · intro i x hx
    rw [r1] at hx
    obtain ⟨o, q, k1, k2, k3, k4, k5⟩ := g3 i x hx
    refine ⟨q, by simp [k2], k5, fun ad ha => ?_⟩
    cases o with
    | none => rw [k4 rfl] at ha; cases ha
    | some b =>
      obtain ⟨y', e1, e2, e3⟩ := k3 b rfl
      exact newB i b y' q ad k1 e1 e2 e3 ha
  · intro i hi
    rw [r1, ← g2] at hi
    simp [List.getElem?_eq_none hi]
  · intro i j q q' ad ad' hi hj hq hq' ha ha' he
    rw [r1] at hi hj
    obtain ⟨o, p, k1, k2, k3, k4, k5⟩ := g3 i _ (List.getElem?_eq_getElem hi)
    obtain ⟨o', p', l1, l2, l3, l4, l5⟩ := g3 j _ (List.getElem?_eq_getElem hj)
    simp only [k2, Option.map_some, Option.some.injEq] at hq
    simp only [l2, Option.map_some, Option.some.injEq] at hq'
    subst hq; subst hq'
    cases o with
    | none => rw [k4 rfl] at ha; cases ha
    | some b =>
      cases o' with
      | none => rw [l4 rfl] at ha'; cases ha'
      | some b' =>
        obtain ⟨y1, e1, e2, e3⟩ := k3 b rfl
        obtain ⟨y2, f1, f2, f3⟩ := l3 b' rfl
        have := hM.inj b b' y1 y2 p p' ad ad' e1 f1 e2 f2 e3 f3 ha ha' he
        subst this
        exact filterMap_inj hnd1 i j b k1 l1
  · intro i x hx
    rw [r2, i5] at hx
    obtain ⟨k1, q, k2, k3⟩ := o1 i x hx
    obtain ⟨q', y', e1, e2, _⟩ := hkey i k1
    rw [k2] at e2; cases e2
    exact ⟨q, e1, k3⟩
  · intro b hb
    obtain ⟨j, q, y', ad, j1, j2, j3, j4, j5, rfl⟩ := hIO b hb
    exact notF j y' q ad j3 j4 j2 j5 (fun hc => hdis j hc (List.mem_append_right _ j1))
end
end Go.E

set_option linter.unusedVariables false
namespace Go.E
open Go Go.RowKit

section
variable {P : Program} {E : Env}

theorem initS_get {ps : List PT} {x : D (tupTy (ps.map PT.ty))} (t : Nat) : (initS ps x).get t = match look (initT 0 ps x).1 t with | some v => v | none => .undef := rfl
theorem initS_m {ps : List PT} {x : D (tupTy (ps.map PT.ty))} : (initS ps x).m = (initT 0 ps x).2 := rfl
theorem initS_n {ps : List PT} {x : D (tupTy (ps.map PT.ty))} : (initS ps x).n = ps.length := rfl

/-- A function's code, and what is looked at once. -/
structure FnAt (P : Program) (g : Nat) (fn : Func) (c : Code) (An : Ann) (ps : List PT) (ros : List (ResultVar × RO)) : Prop where
  at_ : P.funcs[g]? = some fn
  name : (fn.name == "runtime.NumGoroutine") = false
  body : fn.body = some c
  res : fn.results = (ros.map (·.1)).toArray
  ok : codeOk An fn.ntmps c = true
  kp : An.kp = keys 0 ps
  len : ps.length ≤ fn.ntmps

/-- What a function's code is run to, the function does. -/
theorem fn_at (hE : EnvC P E) (hmix : P.follows .mixedOrders = true) {g : Nat} {fn : Func} {c : Code} {An : Ann} {ps : List PT} {ros : List (ResultVar × RO)} (H : FnAt P g fn c An ps ros) {args : List V} {x : D (tupTy (ps.map PT.ty))} {y : D (tupTy (ros.map (·.2.ty) ++ outTys ps))}
    (hx : takeArgs ps args = some x) (hy : fnR E An c ps ros x = some y) (hkeys : (resOf ps ros y).outs.map (·.1) = keys 0 ps) : SatAt P E.G g (avsOf ps args) (resOf ps ros y) := by
  intro w A B io vs hA hB hglob hio harg
  left
  have henter : (callFunc g vs).run P w = .ok (.enter g vs) w := by
    have h1 : ¬ fn.name = "runtime.NumGoroutine" := by simpa using H.name
    simp [callFunc, H.at_, h1, H.body]
  refine ⟨henter, ?_⟩
  classical
  -- what the callee begins with; the io map, cut down to the keys
  let io' : Nat → Option MB := fun j => if j ∈ keys 0 ps then io j else none
  let μ0 : Mu := fun j => (io' j).map some
  have io'_key : ∀ j, j ∈ keys 0 ps → io' j = io j := fun j hj => if_pos hj
  have io'_some : ∀ j q, io' j = some q → j ∈ keys 0 ps ∧ io j = some q := fun j q e => by
    by_cases hj : j ∈ keys 0 ps
    · exact ⟨hj, by rw [← io'_key j hj]; exact e⟩
    · have : io' j = none := if_neg hj
      rw [this] at e; cases e
  have hIOb : ∀ b, IOb io' b → IOb io b := by
    rintro b ⟨j, q, ad, e1, e2, e3⟩
    exact ⟨j, q, ad, (io'_some j q e1).2, e2, e3⟩
  have m0 : Mem E.G w (IOb io') A B A noMu [] w :=
    ⟨⟨rfl, rfl, rfl, Nat.le_refl _, fun _ _ _ => rfl⟩, fun b x e => (by cases e), fun b x q ad e => (by cases e), fun b b' x x' q q' ad ad' e => (by cases e), fun b hb => ⟨hA b hb, .inl hb⟩, fun b hb => ⟨hB b hb, fun h => (hio.apart b (hIOb b h)).2.1 hb⟩, hglob⟩
  have hμ : ∀ j q, j ∈ keys 0 ps → io j = some q → μ0 j = some (some q) := fun j q hj e => by
    show (io' j).map some = _
    rw [io'_key j hj, e]; rfl
  obtain ⟨i1, i2, i3, i4⟩ := init_ok m0 (o := keys 0 ps) (io := io) hμ ps 0 args x vs.toList hx (fun j hj => hj) harg
  have hvs : vs.size = ps.length := by simpa using i3
  have hsub : noMu.sub μ0 := fun c o e => by cases e
  have hrel : Rel E w (IOb io') A B fn.ntmps μ0 (initS ps x).n (initS ps x) { tmps := vs ++ Array.replicate (fn.ntmps - vs.size) undef, defers := [] } w := by
    refine ⟨A, μ0, ⟨⟨m0.ext, fun b bx e => ?_, fun b bx q ad e hz hq ha => ?_, fun b b' bx bx' q q' ad ad' e e' hz hz' hq hq' ha ha' he => ?_, m0.fz, m0.bz, fun g cs hg => (tr_mu hsub).R (hglob g cs hg)⟩, fun t => ?_, ?_, rfl, fun id hid => ?_, μ0.le_refl⟩⟩
    · rw [initS_m] at e
      obtain ⟨k1, k2, q, k3, k4⟩ := i2 b bx e
      exact ⟨q, hμ b q k1 k3, k4⟩
    · rw [initS_m] at e
      obtain ⟨k1, k2, q', k3, k4⟩ := i2 b bx e
      rw [hμ b q' k1 k3] at hq; cases hq
      have := hio.apart ad.block ⟨b, q, ad, k3, ha, rfl⟩
      exact ⟨this.1, this.2.1, this.2.2, .inr ⟨b, q, ad, by rw [io'_key b k1]; exact k3, ha, rfl⟩⟩
    · rw [initS_m] at e e'
      obtain ⟨k1, k2, p, k3, k4⟩ := i2 b bx e
      obtain ⟨l1, l2, p', l3, l4⟩ := i2 b' bx' e'
      rw [hμ b p k1 k3] at hq; cases hq
      rw [hμ b' p' l1 l3] at hq'; cases hq'
      exact hio.inj b b' q q' ad ad' k3 l3 ha ha' he
    · rw [initS_get]
      cases e : look (initT 0 ps x).1 t with
      | none => simp only [R]
      | some v =>
        obtain ⟨_, cv, k2, k3⟩ := i1 t v e
        have hlt : t < vs.size := by
          have := (List.getElem?_eq_some_iff.1 k2).1; simpa using this
        have : (vs ++ Array.replicate (fn.ntmps - vs.size) undef).getD t undef = cv := by
          rw [Array.getD_eq_getD_getElem?, Array.getElem?_append_left hlt]
          have k2' : vs[t]? = some cv := by simpa using k2
          rw [k2']; rfl
        simp only [this]; exact k3
    · have := H.len
      simp; omega
    · show (io' id).map some = none
      have : io' id = none := if_neg (fun hm => by have := (keys_ge ps 0 id hm).2; rw [initS_n] at hid; omega)
      rw [this]; rfl
  have hkp : ∀ i o, μ0 i = some o → i ∈ An.kp := fun i o e => by
    rw [H.kp]
    by_cases hj : i ∈ keys 0 ps
    · exact hj
    · have : io' i = none := if_neg hj
      have e' : (io' i).map some = some o := e
      rw [this] at e'; cases e'
  have hμ0 : ∀ j ∈ keys 0 ps, ∃ q, io' j = some q ∧ μ0 j = some (some q) := fun j hj => by
    obtain ⟨q, hq⟩ := i4 j hj
    exact ⟨q, by rw [io'_key j hj]; exact hq, hμ j q hj hq⟩
  have fin : ∀ (s : St) (a : Act) (w' : World), Rel E w (IOb io') A B fn.ntmps μ0 s.n s a w' → retOk E s ps ros = true → getAll E s ps ros = some y →
      a.defers = [] ∧ ∃ v, (results fn a.tmps).run P w' = .ok v w' ∧ ∃ v', Ending.returned v = .returned v' ∧ ∃ F μ, ResR A B w io (resOf ps ros y) w' v' F μ := fun s a w' ⟨F, μ, h⟩ h1 h2 => by
    obtain ⟨cv, k1, F', μr, k2⟩ := ret_ok hE h (fun b hb => hio.apart b (hIOb b hb)) hμ0 (fun j q e => (io'_some j q e).1) hA H.res h1 h2
    refine ⟨h.defers, cv, k1, cv, rfl, F', μr, ?_⟩
    have hb' : ∀ b, IOb io b → IOb io' b ∨ ¬ IOb io' b := fun b _ => Classical.em _
    exact ⟨⟨k2.ext.os, k2.ext.tape, k2.ext.output, k2.ext.size, fun k hk hn => k2.ext.block k hk (fun h => hn (hIOb k h))⟩, k2.fz, k2.val, k2.bs, k2.dom, k2.bsInj,
      fun i x hx => by obtain ⟨q, e1, e2⟩ := k2.outs i x hx; exact ⟨q, (io'_some i q e1).2, e2⟩,
      fun b hb hf => by
        rcases k2.fz b hf with h | h
        · exact (hio.apart b hb).1 h
        · have := (hio.apart b hb).2.2; omega⟩
  unfold fnR at hy
  refine calls_of_wp H.at_ H.body (wp_mono (run_sound (An := An) hE hmix hkp c H.ok (retK E ps ros) y (initS ps x) _ w hrel hy) (fun e a w' => ?_))
  rintro ⟨ex, s, rfl, h1, h2⟩
  cases ex with
  | exit id => cases h1
  | normal =>
    simp only [retK] at h1
    split at h1
    · rename_i hok; exact fin s a w' h2 hok h1
    · cases h1
  | ret =>
    simp only [retK] at h1
    split at h1
    · rename_i hok; exact fin s a w' h2 hok h1
    · cases h1

theorem outsOf_keys : ∀ (ps : List PT) (i : Nat) (r : D (tupTy (outTys ps))), (outsOf i ps r).map (·.1) = keys i ps
  | [], _, _ => rfl
  | .val _ :: ps, i, r => outsOf_keys ps (i + 1) r
  | .rc _ :: ps, i, r => outsOf_keys ps (i + 1) r
  | .fn _ _ :: ps, i, r => outsOf_keys ps (i + 1) r
  | .st τ :: ps, i, r => by
    show i :: (outsOf (i + 1) ps _).map (·.1) = i :: keys (i + 1) ps
    rw [outsOf_keys ps (i + 1)]
  | .io τ :: ps, i, r => by
    show i :: (outsOf (i + 1) ps _).map (·.1) = i :: keys (i + 1) ps
    rw [outsOf_keys ps (i + 1)]
  | .mx τ0 off0 τ :: ps, i, r => by
    show i :: (outsOf (i + 1) ps _).map (·.1) = i :: keys (i + 1) ps
    rw [outsOf_keys ps (i + 1)]

theorem resParts_keys (ps : List PT) : ∀ (ros : List (ResultVar × RO)) (y : D (tupTy (ros.map (·.2.ty) ++ outTys ps))) (k : Nat), (resParts ps ros y k).2.2.map (·.1) = keys 0 ps
  | [], y, k => outsOf_keys ps 0 y
  | (t, .val τ) :: r, y, k => resParts_keys ps r (tailT (τ := τ) _ y) k
  | (t, .own τ) :: r, y, k => resParts_keys ps r (tailT (τ := .sl τ) _ y) (k + 1)
  | (t, .st τ) :: r, y, k => resParts_keys ps r (tailT (τ := τ) _ y) (k + 1)
  | (t, .mx τ off σ es) :: r, y, k => resParts_keys ps r (tailT (τ := τ) _ y) (k + 1)

theorem resOf_keys (ps : List PT) (ros : List (ResultVar × RO)) (y : D (tupTy (ros.map (·.2.ty) ++ outTys ps))) : (resOf ps ros y).outs.map (·.1) = keys 0 ps := by
  have h := resParts_keys ps ros y 0
  unfold resOf
  generalize resParts ps ros y 0 = z at h
  obtain ⟨vs, bs, os⟩ := z
  match vs with
  | [] => exact h
  | [_] => exact h
  | _ :: _ :: _ => exact h

theorem resOf_offs (ps : List PT) (ros : List (ResultVar × RO)) (y : D (tupTy (ros.map (·.2.ty) ++ outTys ps))) : (resOf ps ros y).offs = offsK 0 ps := by
  unfold resOf
  generalize resParts ps ros y 0 = z
  obtain ⟨vs, bs, os⟩ := z
  match vs with
  | [] => rfl
  | [_] => rfl
  | _ :: _ :: _ => rfl

/-- THE CONTRACT OF A FUNCTION, out of its code. -/
theorem fn_sat (hE : EnvC P E) (hmix : P.follows .mixedOrders = true) {g : Nat} {fn : Func} {c : Code} {An : Ann} {ps : List PT} {ros : List (ResultVar × RO)} (H : FnAt P g fn c An ps ros) : SatC P E.G g (entry ps ros (fnR E An c ps ros)) := by
  intro ρ args K r h
  unfold entry at h
  split at h
  case h_2 => cases h
  rename_i x hx
  obtain ⟨y, hy, hK⟩ := bindO_some h
  refine ⟨avsOf ps args, resOf ps ros y, ?_, fn_at hE hmix H hx hy (resOf_keys ps ros y), hK⟩
  rw [resOf_keys, resOf_offs]
  exact match_ok ps 0 args x hx (fun j _ => Iff.rfl) (fun j _ => rfl)
end
end Go.E

set_option linter.unusedVariables false
namespace Go.E
open Go Go.RowKit

/-! Loops as functions that call themselves. -/

section
variable {E : Env} {An : Ann} {ρ ρ' : Type}

theorem opsK_bind (hE : E.ok) {ops : Array Oper} (f : ρ → Option ρ') : ∀ (l : List Oper) (base : Nat) (s : St) (K : St → Option ρ), (opsK E ops l base s K).bind f = opsK E ops l base s (fun s => (K s).bind f)
  | [], base, s, K => rfl
  | o :: l, base, s, K => by
    simp only [opsK]
    split
    · rw [opK_bind hE]; congr 1; funext v m; exact opsK_bind hE f l _ _ K
    · split
      · rfl
      · split
        · rfl
        · split
          · split
            · rw [iteB_bind, opK_bind hE]; congr 1
              · congr 1; funext v m; exact opsK_bind hE f l _ _ K
              · exact opsK_bind hE f l _ _ K
            · rw [iteB_bind, opK_bind hE]; congr 1
              · exact opsK_bind hE f l _ _ K
              · congr 1; funext v m; exact opsK_bind hE f l _ _ K
          · exact opsK_bind hE f l _ _ K
          · rfl

theorem orK_bind (hE : E.ok) {ops : Array Oper} {kp live : List Nat} {t : Sc} {base : Nat} {s : St} (f : ρ → Option ρ') (K : St → Option ρ) : (orK E kp live ops t base s K).bind f = orK E kp live ops t base s (fun s => (K s).bind f) := by
  unfold orK
  split
  · rfl
  · split
    · rw [drawK_bind hE]
    · rfl

theorem lim_eq {f : Nat → Option ρ} {r : ρ} (hu : ∀ k k' r r', f k = some r → f k' = some r' → r = r') {k : Nat} (h : f k = some r) : lim f = some r := by
  unfold lim
  have hx : ∃ r, ∃ k, f k = some r := ⟨r, k, h⟩
  rw [dif_pos hx]
  obtain ⟨k', h'⟩ := Classical.choose_spec hx
  exact congrArg some (hu _ _ _ _ h' h)

theorem lim_none {f : Nat → Option ρ} (h : ∀ k, f k = none) : lim f = none := by
  unfold lim
  rw [dif_neg]
  rintro ⟨r, k, e⟩
  rw [h] at e; cases e

def pairK : Kt (Ex × St) := fun x s => some (x, s)

/-- A step that does not look at what comes behind. -/
def NatC (E : Env) (An : Ann) (a : Code) : Prop := ∀ (ρ : Type) (s : St) (κ : Kt ρ), run E An a s κ = (run E An a s pairK).bind fun p => κ p.1 p.2

theorem iter_nat {a : Code} (hB : NatC E An a) {κ : Kt ρ} : ∀ k s, iter An a (run E An a) κ k s = (iter An a (run E An a) pairK k s).bind fun p => κ p.1 p.2
  | 0, s => rfl
  | k + 1, s => by
    simp only [iter]
    rw [hB _ s (loopK An a (iter An a (run E An a) κ k) κ), hB _ s (loopK An a (iter An a (run E An a) pairK k) pairK), Option.bind_assoc]
    congr 1; funext p
    obtain ⟨x, s'⟩ := p
    cases x with
    | normal => exact iter_nat hB k _
    | exit id => rfl
    | ret => rfl

theorem iter_step {a : Code} (hB : NatC E An a) {κ : Kt ρ} : ∀ k s r, iter An a (run E An a) κ k s = some r → iter An a (run E An a) κ (k + 1) s = some r
  | 0, s, r, h => by cases h
  | k + 1, s, r, h => by
    have h : run E An a s (loopK An a (iter An a (run E An a) κ k) κ) = some r := h
    show run E An a s (loopK An a (iter An a (run E An a) κ (k + 1)) κ) = some r
    rw [hB] at h ⊢
    rw [Option.bind_eq_some_iff] at h ⊢
    obtain ⟨p, h1, h2⟩ := h
    refine ⟨p, h1, ?_⟩
    obtain ⟨x, s'⟩ := p
    cases x with
    | normal => exact iter_step hB k _ r h2
    | exit id => exact h2
    | ret => exact h2

theorem iter_le {a : Code} (hB : NatC E An a) {κ : Kt ρ} {s : St} {r : ρ} {k : Nat} (h : iter An a (run E An a) κ k s = some r) : ∀ d, iter An a (run E An a) κ (k + d) s = some r
  | 0 => h
  | d + 1 => iter_step hB _ _ _ (iter_le hB h d)

theorem iter_uniq {a : Code} (hB : NatC E An a) {κ : Kt ρ} {s : St} (k k' : Nat) (r r' : ρ) (h : iter An a (run E An a) κ k s = some r) (h' : iter An a (run E An a) κ k' s = some r') : r = r' := by
  have e1 := iter_le hB h k'
  have e2 := iter_le hB h' k
  rw [Nat.add_comm, e2] at e1
  exact (Option.some.inj e1).symm

theorem loopR_nat {a : Code} (hB : NatC E An a) {κ : Kt ρ} (s : St) : loopR An a (run E An a) κ s = (loopR An a (run E An a) pairK s).bind fun p => κ p.1 p.2 := by
  simp only [loopR_def]
  by_cases h : ∃ p k, iter An a (run E An a) pairK k s = some p
  · obtain ⟨p, k, h⟩ := h
    rw [lim_eq (iter_uniq hB) h]
    cases hr : κ p.1 p.2 with
    | none =>
      rw [lim_none]; · simp [hr]
      intro k'
      rw [iter_nat hB]
      cases h' : iter An a (run E An a) pairK k' s with
      | none => rfl
      | some p' => rw [iter_uniq hB _ _ _ _ h' h]; simp [hr]
    | some r =>
      rw [lim_eq (iter_uniq hB) (k := k) (r := r)]; · simp [hr]
      rw [iter_nat hB, h]; simp [hr]
  · have hn : ∀ k, iter An a (run E An a) pairK k s = none := fun k => by
      cases h' : iter An a (run E An a) pairK k s with
      | none => rfl
      | some p => exact absurd ⟨p, k, h'⟩ h
    rw [lim_none hn, lim_none]; · rfl
    intro k; rw [iter_nat hB, hn]; rfl

theorem run_nat (hE : E.ok) : ∀ c : Code, NatC E An c := by
  intro c
  induction c with
  | skip => intro ρ s κ; rfl
  | exit id => intro ρ s κ; rfl
  | ret => intro ρ s κ; rfl
  | region id ops d =>
    intro ρ s κ
    cases d with
    | false => simp only [run]; rw [opsK_bind hE]; rfl
    | true =>
      simp only [run]
      split
      · rw [hide_eq, hide_eq]; simp only [orP]; rw [orK_bind hE]; rfl
      · split
        · rw [drawK_bind hE]; rfl
        · rfl
  | seq a b iha ihb =>
    intro ρ s κ
    simp only [run]
    rw [iha _ s (seqK An b (run E An b) κ), iha _ s (seqK An b (run E An b) pairK), Option.bind_assoc]
    congr 1; funext p
    obtain ⟨x, s'⟩ := p
    cases x with
    | normal =>
      show seqK An b (run E An b) κ .normal s' = (seqK An b (run E An b) pairK .normal s').bind fun p => κ p.1 p.2
      rw [seqK_normal, seqK_normal]
      exact ihb _ _ κ
    | exit id => rfl
    | ret => rfl
  | cond c a b iha ihb =>
    intro ρ s κ
    simp only [run]
    split
    · split
      · rw [iteB_bind]; congr 1
        · exact iha _ _ κ
        · exact ihb _ _ κ
      · rw [iteB_bind]; congr 1
        · exact iha _ _ κ
        · exact ihb _ _ κ
    · rfl
  | block id a ih =>
    intro ρ s κ
    simp only [run]
    rw [ih _ s (blockK id κ), ih _ s (blockK id pairK), Option.bind_assoc]
    congr 1; funext p
    obtain ⟨x, s'⟩ := p
    cases x with
    | normal => rfl
    | ret => rfl
    | exit j =>
      simp only [blockK]
      split <;> rfl
  | loop a ih => intro ρ s κ; simp only [run]; exact loopR_nat ih _
  | _ => intro ρ s κ; rfl

/-- A loop, once more. -/
theorem loop_fix (hE : E.ok) (a : Code) (κ : Kt ρ) (s : St) : loopR An a (run E An a) κ s = run E An a s (loopK An a (loopR An a (run E An a) κ) κ) := by
  have hB : NatC E An a := run_nat hE a
  rw [hB _ s (loopK An a (loopR An a (run E An a) κ) κ)]
  have it : ∀ k, iter An a (run E An a) κ (k + 1) s = (run E An a s pairK).bind fun p => loopK An a (iter An a (run E An a) κ k) κ p.1 p.2 := fun k => hB _ s _
  have uq := fun (s : St) => iter_uniq (An := An) (κ := κ) (a := a) (s := s) hB
  cases hp : run E An a s pairK with
  | none =>
    simp only [loopR_def]
    rw [lim_none]; · rfl
    intro k
    cases k with
    | zero => rfl
    | succ k => rw [it, hp]; rfl
  | some p =>
    obtain ⟨x, s'⟩ := p
    simp only [Option.bind_some]
    have done : ∀ o : Option ρ, (∀ k, iter An a (run E An a) κ (k + 1) s = o) → loopR An a (run E An a) κ s = o := fun o h => by
      simp only [loopR_def]
      cases o with
      | none =>
        apply lim_none
        intro k
        cases k with
        | zero => rfl
        | succ k => exact h k
      | some r => exact lim_eq (uq s) (h 0)
    cases x with
    | exit id => exact done _ (fun k => by rw [it, hp]; rfl)
    | ret => exact done _ (fun k => by rw [it, hp]; rfl)
    | normal =>
      have e : ∀ k, iter An a (run E An a) κ (k + 1) s = iter An a (run E An a) κ k (canAt An.kp An.lp a s') := fun k => by rw [it, hp]; rfl
      show loopR An a (run E An a) κ s = loopR An a (run E An a) κ (canAt An.kp An.lp a s')
      simp only [loopR_def]
      by_cases h : ∃ r k, iter An a (run E An a) κ k (canAt An.kp An.lp a s') = some r
      · obtain ⟨r, k, h⟩ := h
        rw [lim_eq (uq _) h, lim_eq (uq s) (k := k + 1) (by rw [e]; exact h)]
      · have hn : ∀ k, iter An a (run E An a) κ k (canAt An.kp An.lp a s') = none := fun k => by
          cases h' : iter An a (run E An a) κ k (canAt An.kp An.lp a s') with
          | none => rfl
          | some r => exact absurd ⟨r, k, h'⟩ h
        rw [lim_none hn, lim_none]
        intro k
        cases k with
        | zero => rfl
        | succ k => rw [e, hn]

theorem entry_nat (ps : List PT) (ros : List (ResultVar × RO)) (f : D (tupTy (ps.map PT.ty)) → Option (D (tupTy (ros.map (·.2.ty) ++ outTys ps)))) : Natu (entry ps ros f) := by
  intro R args K
  unfold entry
  split
  · rw [bindO_bind]; rfl
  · rfl
end
end Go.E

set_option linter.unusedVariables false
namespace Go.E
open Go Go.RowKit

/-! What is said of types, looked at once. -/

def eqV0 : V → V → Bool
  | .val .bool a, .val .bool b => a == b
  | .val (.int k) a, .val (.int k') b => decide (k = k') && a == b
  | .val .str a, .val .str b => decide (a.data = b.data)
  | .val .err a, .val .err b => a == b
  | .nil, .nil => true
  | .nilp, .nilp => true
  | .undef, .undef => true
  | _, _ => false

theorem eqV0_ok {x y : V} (h : eqV0 x y = true) : x = y := by
  unfold eqV0 at h
  split at h
  · rename_i a b; have : (a : Bool) = b := by simpa using h
    rw [this]
  · rename_i k a k' b
    simp only [Bool.and_eq_true, decide_eq_true_eq] at h
    obtain ⟨rfl, h⟩ := h
    have : (a : Int) = b := by simpa using h
    rw [this]
  · rename_i a b
    have h := of_decide_eq_true h
    cases a; cases b; cases h; rfl
  · rename_i a b; have : (a : Bool) = b := by simpa using h
    rw [this]
  · rfl
  · rfl
  · rfl
  · cases h

def eqVL : List V → List V → Bool
  | [], [] => true
  | x :: xs, y :: ys => eqV0 x y && eqVL xs ys
  | _, _ => false

theorem eqVL_ok : ∀ {xs ys : List V}, eqVL xs ys = true → xs = ys
  | [], [], _ => rfl
  | x :: xs, y :: ys, h => by
    simp only [eqVL, Bool.and_eq_true] at h
    rw [eqV0_ok h.1, eqVL_ok h.2]
  | [], _ :: _, h => by cases h
  | _ :: _, [], h => by cases h

def kindOk (P : Program) (L : List (Nat × TL)) (t : Nat) (l : TL) : Bool := match l.k with
  | .int k => match P.underlying t with
    | some (.int k') => decide (k = k') && decide (l.ty = .int k)
    | _ => false
  | .bool => match P.underlying t with
    | some .bool => decide (l.ty = .bool)
    | _ => false
  | .str => match P.underlying t with
    | some .string => decide (l.ty = .str)
    | _ => false
  | .sl e => match P.underlying t with
    | some (.slice e') => match look L e with
      | some le => decide (e = e') && decide (l.ty = .sl le.ty)
      | none => false
    | _ => false
  | .st fs => match P.underlying t with
    | some (.struct fields) => decide (fs = (fields.toList.map fun f => (f.offset, f.type))) && (fields.toList.all fun f => (f.name == "_") == false && (match look L f.type with
        | some lu => decide (f.offset + lu.ty.width ≤ l.ty.width)
        | none => false)) && P.stoodInHeld t == false && P.eqGuardType P.depth t == false
    | _ => false
  | .err => match P.underlying t with
    | some (.interface _) => decide (l.ty = .err)
    | _ => false
  | _ => true

def layOk (P : Program) (L : List (Nat × TL)) (t : Nat) (l : TL) : Bool :=
  (match P.info? t with
    | some i => decide (i.size = l.ty.width) && decide (i.bytes ≤ 512) && (match i.zero with
      | some z => eqVL (z.cells.toList.map scal) l.zero
      | none => false)
    | none => false) && decide (l.ty.width ≠ 0) && decide (l.zero.length = l.ty.width) &&
  (match P.underlying t with
    | some d => (match d with | .struct _ | .array _ _ => true | _ => false) == l.ty.agg
    | none => false) && kindOk P L t l

theorem layOk_ok {P : Program} {L : List (Nat × TL)} {t : Nat} {l : TL} (h : layOk P L t l = true) : Lay P L t l := by
  unfold layOk at h
  simp only [Bool.and_eq_true, decide_eq_true_eq] at h
  obtain ⟨⟨⟨⟨h1, h2⟩, h3⟩, h4⟩, h5⟩ := h
  constructor
  · split at h1
    · rename_i i hi
      simp only [Bool.and_eq_true, decide_eq_true_eq] at h1
      obtain ⟨⟨k1, k2⟩, k3⟩ := h1
      split at k3
      · rename_i z hz; exact ⟨i, hi, k1, k2, z, hz, eqVL_ok k3⟩
      · cases k3
    · cases h1
  · exact h2
  · exact h3
  · split at h4
    · rename_i d hd; exact ⟨d, hd, by cases d <;> exact eq_of_beq h4⟩
    · cases h4
  · unfold kindOk at h5
    cases hk : l.k with
    | int k =>
      simp only [hk] at h5 ⊢
      split at h5
      · rename_i k' hu; simp only [Bool.and_eq_true, decide_eq_true_eq] at h5; obtain ⟨rfl, h5⟩ := h5; exact ⟨hu, h5⟩
      · cases h5
    | bool =>
      simp only [hk] at h5 ⊢
      split at h5
      · rename_i hu; exact ⟨hu, by simpa using h5⟩
      · cases h5
    | str =>
      simp only [hk] at h5 ⊢
      split at h5
      · rename_i hu; exact ⟨hu, by simpa using h5⟩
      · cases h5
    | sl e =>
      simp only [hk] at h5 ⊢
      split at h5
      · rename_i e' hu
        split at h5
        · rename_i le hle
          simp only [Bool.and_eq_true, decide_eq_true_eq] at h5
          obtain ⟨rfl, h5⟩ := h5
          exact ⟨hu, le, hle, h5⟩
        · cases h5
      · cases h5
    | st fs =>
      simp only [hk] at h5 ⊢
      split at h5
      · rename_i fields hu
        simp only [Bool.and_eq_true, decide_eq_true_eq, beq_iff_eq] at h5
        obtain ⟨⟨⟨k1, k2⟩, k3⟩, k4⟩ := h5
        refine ⟨fields, hu, k1, fun f hf => ?_, k3, k4⟩
        rw [List.all_eq_true] at k2
        have := k2 f hf
        simp only [Bool.and_eq_true, beq_iff_eq] at this
        obtain ⟨j1, j2⟩ := this
        refine ⟨j1, ?_⟩
        split at j2
        · rename_i lu hlu; exact ⟨lu, hlu, by simpa using j2⟩
        · cases j2
      · cases h5
    | err =>
      simp only [hk] at h5 ⊢
      split at h5
      · rename_i ms hu; exact ⟨⟨ms, hu⟩, by simpa using h5⟩
      · cases h5
    | ptr e => trivial
    | other => trivial

theorem look_of_mem {α : Type} {l : List (Nat × α)} {k : Nat} {x : α} (h : look l k = some x) : (k, x) ∈ l := by
  induction l with
  | nil => cases h
  | cons p r ih =>
    obtain ⟨j, y⟩ := p
    rw [look_cons] at h
    split at h
    · rename_i e; subst e; cases h; simp
    · exact List.mem_cons_of_mem _ (ih h)

theorem lays_ok {P : Program} {L : List (Nat × TL)} (h : (L.all fun p => layOk P L p.1 p.2) = true) : ∀ t l, look L t = some l → Lay P L t l := fun t l hl => by
  rw [List.all_eq_true] at h
  exact layOk_ok (h (t, l) (look_of_mem hl))


theorem look_consU {α : Type _} (k : Nat) (x : α) (l : List (Nat × α)) (j : Nat) : look ((k, x) :: l) j = if k = j then some x else look l j := rfl

/-- An environment with one contract more. -/
theorem EnvC.cons {P : Program} {L : List (Nat × TL)} {G : List (Nat × List V)} {C : List (Nat × Entry)} {g : Nat} {c : Entry} (h : EnvC P { L := L, G := G, C := C }) (hs : SatC P G g c) (hn : Natu c) :
    EnvC P { L := L, G := G, C := (g, c) :: C } := by
  refine ⟨⟨⟨fun f d e => ?_⟩, h.ok.lay⟩, fun f d e => ?_, h.glb⟩
  · have e' : look ((g, c) :: C) f = some d := e
    rw [look_consU] at e'
    split at e'
    · cases e'; exact hn
    · exact h.ok.nat.nat f d e'
  · have e' : look ((g, c) :: C) f = some d := e
    rw [look_consU] at e'
    split at e'
    · rename_i k; subst k; cases e'; exact hs
    · exact h.ctr f d e'

theorem EnvC.nil {P : Program} {L : List (Nat × TL)} (h : (L.all fun p => layOk P L p.1 p.2) = true) : EnvC P { L := L, G := [], C := [] } :=
  ⟨⟨⟨fun f d e => (by cases e)⟩, lays_ok h⟩, fun f d e => (by cases e), fun g cs e => (by cases e)⟩
end Go.E

set_option linter.unusedVariables false
namespace Go.E
open Go Go.RowKit

/-! Functions without a body. -/

section
variable {P : Program} {G : List (Nat × List V)} {A B : Nat → Prop} {w : World} {io : Nat → Option MB}

/-- A value alone is handed back; nothing is changed. -/
theorem res_val {τ : Ty} {x : D τ} {v : Value} (hA : ∀ b, A b → b < w.heap.size) (hio : IoOk A B w io) (hv : R A B w noMu (.val τ x) v) : ResR A B w io { v := .val τ x } w v A noMu where
  ext := ⟨rfl, rfl, rfl, Nat.le_refl _, fun _ _ _ => rfl⟩
  fz b hb := .inl hb
  val := hv
  bs i y h := by simp at h
  dom i _ := rfl
  bsInj i j q q' ad ad' hi := by simp at hi
  outs i y h := by simp at h
  outsF b hb := (hio.apart b hb).1

theorem sat_ext2 {g : Nat} {fn : Func} {e : Array Value → Sem Value} (hf : P.funcs[g]? = some fn) (hname : (fn.name == "runtime.NumGoroutine") = false) (hb : fn.body.isNone = true) (hn : Extern.findNext fn = none) (he : Extern.find fn = some e)
    {τ1 τ2 τ3 : Ty} (h1 : τ1.agg = false) (h2 : τ2.agg = false) (h3 : τ3.agg = false) (f : D τ1 × D τ2 → Option (D τ3))
    (hrun : ∀ x y z, f (x, y) = some z → ∀ (F : Nat → Prop) (v1 v2 : Value) (w : World), RC F w τ1 x [v1] → RC F w τ2 y [v2] → ∃ v, (e #[v1, v2]).run P w = .ok v w ∧ RC F w τ3 z [v]) :
    SatC P G g (entry [.val τ1, .val τ2] [(.tmp 0, .val τ3)] f) := by
  intro ρ args K r h
  unfold entry at h
  split at h
  case h_2 => cases h
  rename_i x hx
  obtain ⟨z, hz, hK⟩ := bindO_some h
  have hm := match_ok (offs := []) (o := []) [.val τ1, .val τ2] 0 args x hx (fun j _ => by simp [keys]) (fun j _ => rfl)
  refine ⟨avsOf [.val τ1, .val τ2] args, resOf [.val τ1, .val τ2] [(.tmp 0, .val τ3)] z, hm, ?_, hK⟩
  obtain ⟨v1, r1, rfl, k1, hx2⟩ := takeArgs_cons hx
  obtain ⟨v2, r2, rfl, k2, hx3⟩ := takeArgs_cons hx2
  cases r2 with
  | cons _ _ => cases hx3
  | nil =>
    cases v1 with
    | val σ1 x1 =>
      cases v2 with
      | val σ2 x2 =>
        obtain ⟨e1, e1'⟩ := castD_some k1
        cases e1
        obtain ⟨e2, e2'⟩ := castD_some k2
        cases e2
        intro w A B io vs hA hB hglob hio harg
        right
        obtain ⟨vl, rfl⟩ : ∃ l : List Value, vs = l.toArray := ⟨vs.toList, by simp⟩
        simp only [avsOf, avOf] at harg
        match vl, harg with
        | [c1, c2], harg =>
          have ha1 : R A B w noMu (.val τ1 x1) c1 := harg.1
          have ha2 : R A B w noMu (.val τ2 x2) c2 := harg.2.1
          simp only [R, h1] at ha1
          simp only [R, h2] at ha2
          have hz' : f (x1, x2) = some z := by
            have q : ((x1, x2) : D τ1 × D τ2) = x := Prod.ext e1'.symm e2'.symm
            rw [q]; exact hz
          obtain ⟨v, hv1, hv2⟩ := hrun x1 x2 z hz' A c1 c2 w ha1 ha2
          refine ⟨v, w, ?_, A, noMu, res_val hA hio ?_⟩
          · rw [run_callFunc_extern hf hname hb hn he]
            simp [hv1, Result.andThen]
          · simp only [R, h3]; exact hv2
      | _ => cases k2
    | _ => cases k1
end
end Go.E

set_option linter.unusedVariables false
namespace Go.E
open Go Go.RowKit

/-! internal/bytealg, for strings. -/

def cntB (p : ByteArray × Int) : Option Int := some ((Lib.countByte p.1.data.toList p.2.toNat.toUInt8 : Nat) : Int)
def idxB (p : ByteArray × Int) : Option Int := some (Lib.indexByte p.1.data.toList p.2.toNat.toUInt8)

section
variable {P : Program} {G : List (Nat × List V)}

theorem countString_sat {g : Nat} {fn : Func} (hf : P.funcs[g]? = some fn) (hname : (fn.name == "runtime.NumGoroutine") = false) (hb : fn.body.isNone = true) (hn : Extern.findNext fn = none) (he : Extern.find fn = some Extern.BytealgCount.count) :
    SatC P G g (entry [.val .str, .val (.int .u8)] [(.tmp 0, .val (.int .i64))] cntB) :=
  sat_ext2 (τ1 := .str) (τ2 := .int .u8) (τ3 := .int .i64) hf hname hb hn he rfl rfl rfl cntB (fun x y z hz F v1 v2 w k1 k2 => by
    simp only [RC] at k1 k2
    cases k1; cases k2
    refine ⟨.int .i64 z, ?_, by simp [RC]⟩
    have hz' := Option.some.inj hz
    subst hz'
    exact Lib.run_countString x y w)

theorem indexByteString_sat {g : Nat} {fn : Func} (hf : P.funcs[g]? = some fn) (hname : (fn.name == "runtime.NumGoroutine") = false) (hb : fn.body.isNone = true) (hn : Extern.findNext fn = none) (he : Extern.find fn = some Extern.BytealgIndexByte.indexByte) :
    SatC P G g (entry [.val .str, .val (.int .u8)] [(.tmp 0, .val (.int .i64))] idxB) :=
  sat_ext2 (τ1 := .str) (τ2 := .int .u8) (τ3 := .int .i64) hf hname hb hn he rfl rfl rfl idxB (fun x y z hz F v1 v2 w k1 k2 => by
    simp only [RC] at k1 k2
    cases k1; cases k2
    refine ⟨.int .i64 z, ?_, by simp [RC]⟩
    have hz' := Option.some.inj hz
    subst hz'
    exact Lib.run_indexByteString x y w)
end
end Go.E

set_option linter.unusedVariables false
namespace Go.E
open Go

/-! The primitives, for plain proofs. -/

section
variable {R α : Type}
theorem iteB_dec (p : Prop) [Decidable p] (x y : Option R) : iteB (decide p) x y = if p then x else y := by
  unfold iteB; by_cases h : p <;> simp [h]
theorem iteB_ltI (a b : Int) (x y : Option R) : iteB (ltI a b) x y = if a < b then x else y := iteB_dec _ x y
theorem iteB_leI (a b : Int) (x y : Option R) : iteB (leI a b) x y = if a ≤ b then x else y := iteB_dec _ x y
theorem iteB_eqI (a b : Int) (x y : Option R) : iteB (eqI a b) x y = if a = b then x else y := iteB_dec _ x y
theorem iteB_eqS (a b : ByteArray) (x y : Option R) : iteB (eqS a b) x y = if a = b then x else y := iteB_dec _ x y
theorem iteB_notB (b : Bool) (x y : Option R) : iteB (notB b) x y = iteB b y x := by unfold iteB notB; cases b <;> rfl
theorem iteB_t (x y : Option R) : iteB true x y = x := rfl
theorem iteB_f (x y : Option R) : iteB false x y = y := rfl
theorem iteB_room (a b : List α) (x y : Option R) : iteB (roomL a b) x y = if a.length + b.length ≤ roomMax then x else y := iteB_dec _ x y
theorem iteB_roomS (a b : ByteArray) (x y : Option R) : iteB (roomS a b) x y = if a.size + b.size ≤ roomMax then x else y := iteB_dec _ x y
theorem iteB_roomN (n : Int) (x y : Option R) : iteB (roomN n) x y = if 0 ≤ n ∧ n ≤ (roomMax : Nat) then x else y := iteB_dec _ x y
theorem iteB_okCut (l h n : Int) (x y : Option R) : iteB (okCut l h n) x y = if 0 ≤ l ∧ l ≤ h ∧ h ≤ n then x else y := iteB_dec _ x y
theorem bindO_some' (a : α) (f : α → Option R) : bindO (some a) f = f a := rfl
theorem bindO_none' (f : α → Option R) : bindO none f = none := rfl
theorem lenL_eq (l : List α) : lenL l = (l.length : Int) := rfl
theorem lenS_eq (s : ByteArray) : lenS s = (s.size : Int) := rfl
theorem atL_nat (l : List α) (n : Nat) : atL l (n : Int) = l[n]? := by unfold atL; rw [if_pos (by omega)]; simp
theorem atL_get (l : List α) (i : Int) (h0 : 0 ≤ i) (h1 : i < l.length) : ∃ (h : i.toNat < l.length), atL l i = some l[i.toNat] := by
  have h : i.toNat < l.length := by omega
  refine ⟨h, ?_⟩
  unfold atL; rw [if_pos h0, List.getElem?_eq_getElem h]
theorem addI64 (a b : Int) (h1 : -9223372036854775808 ≤ a + b) (h2 : a + b ≤ 9223372036854775807) : addI .i64 a b = a + b := IntWalk.i64_in _ ⟨h1, h2⟩
theorem subI64 (a b : Int) (h1 : -9223372036854775808 ≤ a - b) (h2 : a - b ≤ 9223372036854775807) : subI .i64 a b = a - b := IntWalk.i64_in _ ⟨h1, h2⟩
end
end Go.E

set_option linter.unusedVariables false
namespace Go.E
open Go Go.RowKit

/-! A row's arguments, read. -/

def Good' : (τ : Ty) → D τ → Prop
  | .int k, n => (Lit.int k n).wf = true
  | .str, s => s.size ≤ maxLen
  | .pr a b, x => Good' a x.1 ∧ Good' b x.2
  | .sl e, l => List.length l ≤ maxLen ∧ ∀ x : D e, x ∈ asL l → Good' e x
  | _, _ => True

def tySeq (L : List (Nat × TL)) : List (Nat × Nat) → Nat → Option Ty
  | [], _ => none
  | [(o, t)], n => if o = n then (look L t).map (·.ty) else none
  | (o, t) :: f :: r, n => if o = n then match look L t with
    | some l => (tySeq L (f :: r) (n + l.ty.width)).map (.pr l.ty)
    | none => none
    else none

def stTy (L : List (Nat × TL)) : List (Nat × Nat) → Option Ty
  | [(o, t)] => if o = 0 then (look L t).map fun l => .pr l.ty .unit else none
  | fs => tySeq L fs 0

/-- Which types are read. -/
def rdOk (L : List (Nat × TL)) (T : List Nat) (t : Nat) : Bool := match look L t with
  | none => false
  | some l => match l.k with
    | .int _ => true
    | .bool => true
    | .str => true
    | .sl e => T.contains e
    | .st fs => decide (stTy L fs = some l.ty) && fs.all fun f => T.contains f.2
    | _ => false

theorem cells_at {w : World} {base : Nat} {a : Addr} {n : Nat} {cs : List Value} (h : w.cells? base a n = some cs) : cs.length = n ∧ ∀ i v, cs[i]? = some v → w.cell? (a.add i) = some v := by
  unfold World.cells? at h
  split at h
  · have hl := mapM_some_length h
    simp at hl
    refine ⟨hl, fun i v hi => ?_⟩
    have hlt := (List.getElem?_eq_some_iff.1 hi).1
    have := mapM_some_get h i i (by rw [List.getElem?_range (by omega)])
    rw [this, hi]
  · cases h

theorem cell_block {w : World} {a : Addr} {v : Value} (h : w.cell? a = some v) : a.spot = none ∧ a.block < w.heap.size := by
  unfold World.cell? at h
  split at h
  · rename_i c t f hb
    refine ⟨?_, (Array.getElem?_eq_some_iff.1 hb).1⟩
    split at h
    · cases h
    · rename_i hs; simpa using hs
  · cases h

section
variable {H : Type} {enc : TypeId × Value → H} {P : Program} {w : World} {base : Nat} {held : Bool} {L : List (Nat × TL)} {T : List Nat}

abbrev FH (w : World) : Nat → Prop := fun b => b < w.heap.size

theorem seq_ok (cs : List Value) : ∀ (fs : List (Nat × Nat)) (n : Nat) (τ : Ty), tySeq L fs n = some τ → cs.length = n + τ.width →
    (∀ f ∈ fs, ∀ l, look L f.2 = some l → ∃ x : D l.ty, RC (FH w) w l.ty x ((cs.drop f.1).take l.ty.width) ∧ Good' l.ty x) → ∃ x : D τ, RC (FH w) w τ x (cs.drop n) ∧ Good' τ x
  | [], n, τ, h, _, _ => by cases h
  | [(o, t)], n, τ, h, hc, hf => by
    simp only [tySeq] at h
    split at h
    rotate_left
    · cases h
    rename_i e; subst e
    cases hl : look L t with
    | none => rw [hl] at h; cases h
    | some l =>
      rw [hl] at h; simp only [Option.map_some, Option.some.injEq] at h; subst h
      obtain ⟨x, h1, h2⟩ := hf (o, t) (by simp) l hl
      rw [List.take_of_length_le (by simp; omega)] at h1
      exact ⟨x, h1, h2⟩
  | (o, t) :: f :: r, n, τ, h, hc, hf => by
    simp only [tySeq] at h
    split at h
    rotate_left
    · cases h
    rename_i e; subst e
    cases hl : look L t with
    | none => rw [hl] at h; cases h
    | some l =>
      rw [hl] at h
      simp only [Option.map_eq_some_iff] at h
      obtain ⟨τ', h, rfl⟩ := h
      simp only [Ty.width] at hc
      obtain ⟨x, h1, h2⟩ := hf (o, t) (by simp) l hl
      obtain ⟨y, h3, h4⟩ := seq_ok cs (f :: r) (o + l.ty.width) τ' h (by omega) (fun g hg => hf g (by simp [hg]))
      refine ⟨(x, y), ?_, h2, h4⟩
      simp only [RC]
      refine ⟨_, _, ?_, h1, h3⟩
      rw [← List.drop_drop, List.take_append_drop]

theorem st_ok (cs : List Value) (fs : List (Nat × Nat)) (τ : Ty) (h : stTy L fs = some τ) (hc : cs.length = τ.width)
    (hf : ∀ f ∈ fs, ∀ l, look L f.2 = some l → ∃ x : D l.ty, RC (FH w) w l.ty x ((cs.drop f.1).take l.ty.width) ∧ Good' l.ty x) : ∃ x : D τ, RC (FH w) w τ x cs ∧ Good' τ x := by
  unfold stTy at h
  split at h
  · rename_i o t
    split at h
    rotate_left
    · cases h
    rename_i e; subst e
    cases hl : look L t with
    | none => rw [hl] at h; cases h
    | some l =>
      rw [hl] at h; cases h
      obtain ⟨x, h1, h2⟩ := hf (0, t) (by simp) l hl
      simp only [Ty.width, Nat.add_zero] at hc
      rw [List.drop_zero, List.take_of_length_le (by omega)] at h1
      exact ⟨(x, ()), by simp only [RC]; exact ⟨cs, [], by simp, h1, rfl⟩, h2, trivial⟩
  · have := seq_ok (w := w) cs fs 0 τ h (by omega) hf
    rwa [List.drop_zero] at this

theorem cellsOf_lay {t : Nat} {l : TL} (h : Lay P L t l) : P.cellsOf t = l.ty.width := by
  obtain ⟨i, h1, h2, _⟩ := h.size
  simp [Program.cellsOf, h1, h2]

/-- What is read is a value. -/
theorem read_ok (hE : ∀ t l, look L t = some l → Lay P L t l) (hT : T.all (rdOk L T) = true) : ∀ (n t : Nat) (cs : List Value) (x : DataW H × List MemPlace), t ∈ T →
    DataW.trod enc P w base (fun _ => true) held n t cs = some x → ∃ l, look L t = some l ∧ ∃ d : D l.ty, RC (FH w) w l.ty d cs ∧ Good' l.ty d := by
  intro n
  induction n with
  | zero => intro t cs x ht h; simp [DataW.trod] at h
  | succ n ih =>
    intro t cs x ht h
    have hr := List.all_eq_true.1 hT t ht
    unfold rdOk at hr
    cases hl : look L t with
    | none => rw [hl] at hr; cases hr
    | some l =>
      rw [hl] at hr
      refine ⟨l, rfl, ?_⟩
      have lay := hE t l hl
      have hk := lay.kind
      simp only at hr
      split at hr
      · rename_i k hk'
        rw [hk'] at hk
        obtain ⟨v, rfl, _, hw⟩ := DataW.trod_int hk.1 h
        rw [hk.2]
        exact ⟨v, by simp only [RC], hw⟩
      · rename_i hk'
        rw [hk'] at hk
        obtain ⟨v, rfl, _⟩ := DataW.trod_bool hk.1 h
        rw [hk.2]
        exact ⟨v, by simp only [RC], trivial⟩
      · rename_i hk'
        rw [hk'] at hk
        obtain ⟨v, rfl, _, hw⟩ := DataW.trod_string hk.1 h
        rw [hk.2]
        exact ⟨v, by simp only [RC], hw⟩
      · rename_i e hk'
        rw [hk'] at hk
        obtain ⟨hu, le, hle, hty⟩ := hk
        have laye := hE e le hle
        have he : e ∈ T := by simpa using hr
        rw [hty]
        rcases DataW.trod_slice hu h with ⟨rfl, _⟩ | ⟨a, len, cap, elems, rest, m, hm, rfl, _, hb, hlc, hcm, hel, hat, hsp, _⟩
        · exact ⟨([] : List (D le.ty)), by simp only [RC]; exact ⟨none, 0, rfl, Nat.le_refl _, fun _ => rfl, fun _ e => by cases e⟩, Nat.zero_le _, fun x hx => by cases hx⟩
        · obtain rfl : n = m := by omega
          have hw := cellsOf_lay laye
          rw [hw] at hat hsp
          have one : ∀ i, i < len → ∃ y : D le.ty, Good' le.ty y ∧ ∃ c, RC (FH w) w le.ty y c ∧ ∀ j v, c[j]? = some v → w.cell? ((a.add (i * le.ty.width)).add j) = some v := by
            intro i hi
            have h1 := hat i hi
            rw [List.getElem?_eq_getElem (by omega), Option.bind_eq_some_iff] at h1
            obtain ⟨c, h2, h3⟩ := h1
            obtain ⟨l', hl', d, h4, h5⟩ := ih e c _ he h3
            rw [hle] at hl'; cases hl'
            exact ⟨d, h5, c, h4, (cells_at h2).2⟩
          have hspot : 0 < cap → a.spot = none ∧ a.block < w.heap.size := by
            intro hc
            have pos := laye.pos
            have first : ∃ c, w.cells? base (a.add (0 * le.ty.width)) le.ty.width = some c := by
              by_cases h0 : 0 < len
              · have h1 := hat 0 h0
                rw [List.getElem?_eq_getElem (by omega), Option.bind_eq_some_iff] at h1
                obtain ⟨c, h2, _⟩ := h1
                exact ⟨c, h2⟩
              · obtain ⟨hsp1, hsp2⟩ := hsp rfl
                have h1 := hsp2 0 (by omega)
                have e0 : len + 0 = 0 := by omega
                rw [e0, List.getElem?_eq_getElem (by omega), Option.bind_eq_some_iff] at h1
                obtain ⟨c, h2, _⟩ := h1
                exact ⟨c, h2⟩
            obtain ⟨c, hcc⟩ := first
            obtain ⟨k1, k2⟩ := cells_at hcc
            have k3 := k2 0 c[0] (by rw [List.getElem?_eq_getElem (by omega)])
            have : (a.add (0 * le.ty.width)).add 0 = a := by simp [Addr.add]
            rw [this] at k3
            exact cell_block k3
          have all : ∀ k, k ≤ len → ∃ ys : List (D le.ty), ys.length = k ∧ ∀ i y, ys[i]? = some y → Good' le.ty y ∧ ∃ c, RC (FH w) w le.ty y c ∧ ∀ j v, c[j]? = some v → w.cell? ((a.add (i * le.ty.width)).add j) = some v := by
            intro k
            induction k with
            | zero => exact fun _ => ⟨[], rfl, fun i y h => by simp at h⟩
            | succ k ihk =>
              intro hk
              obtain ⟨ys, h1, h2⟩ := ihk (by omega)
              obtain ⟨y, hy⟩ := one k (by omega)
              refine ⟨ys ++ [y], by simp [h1], fun i z hi => ?_⟩
              by_cases c : i < ys.length
              · rw [List.getElem?_append_left c] at hi; exact h2 i z hi
              · have hlt := (List.getElem?_eq_some_iff.1 hi).1
                simp only [List.length_append, List.length_cons, List.length_nil] at hlt
                have e : i = ys.length := by omega
                subst e
                rw [List.getElem?_append_right (Nat.le_refl _), Nat.sub_self] at hi
                obtain rfl : y = z := by simpa using hi
                rw [h1]; exact hy
          obtain ⟨ys, h1, h2⟩ := all len (Nat.le_refl _)
          subst h1
          refine ⟨(ys : List (D le.ty)), ?_, by show ys.length ≤ maxLen; omega, fun y hy => ?_⟩
          · simp only [RC]
            refine ⟨some a, cap, rfl, hlc, fun h => by (cases h), fun ad had hc => ?_⟩
            cases had
            obtain ⟨s1, s2⟩ := hspot (by have hc : 0 < ys.length := hc; omega)
            refine ⟨s1, s2, fun i y hy => ?_⟩
            obtain ⟨_, c, k1, k2⟩ := h2 i y hy
            refine ⟨c, k1, fun j v hj => ?_⟩
            have := k2 j v hj
            obtain ⟨b, o, sp⟩ := a
            simp at s1; subst s1
            rw [addr_add, addr_add] at this
            exact this
          · obtain ⟨i, hi⟩ := List.mem_iff_getElem?.1 hy
            exact (h2 i y hi).1
      · rename_i fs hk'
        rw [hk'] at hk
        simp only [Bool.and_eq_true, decide_eq_true_eq] at hr
        obtain ⟨hty, hall⟩ := hr
        obtain ⟨fields, hu, rfl, _, _⟩ := hk
        obtain ⟨xs, m, hm, _, hlen, hxs, hget⟩ := DataW.trod_struct hu h
        obtain rfl : n = m := by omega
        refine st_ok cs _ l.ty hty (by rw [hlen, cellsOf_lay lay]) (fun f hf lf hlf => ?_)
        simp only [List.mem_map] at hf
        obtain ⟨fd, hfd, rfl⟩ := hf
        obtain ⟨i, hi⟩ := List.mem_iff_getElem?.1 hfd
        have hi' : fields[i]? = some fd := by simpa using hi
        have hilt := (Array.getElem?_eq_some_iff.1 hi').1
        have h1 := hget i fd hi'
        rw [List.getElem?_eq_getElem (by omega)] at h1
        have hmem : fd.type ∈ T := by
          have := List.all_eq_true.1 hall (fd.offset, fd.type) (List.mem_map_of_mem (f := fun f : Field => (f.offset, f.type)) hfd)
          simpa using this
        obtain ⟨l', hl', d, h4, h5⟩ := ih fd.type _ _ hmem h1
        have hlf : look L fd.type = some lf := hlf
        rw [hlf] at hl'; cases hl'
        rw [cellsOf_lay (hE _ _ hlf)] at h4
        exact ⟨d, h4, h5⟩
      · cases hr

/-- A handed argument, as a value. -/
theorem arg_ok (hE : ∀ t l, look L t = some l → Lay P L t l) (hT : T.all (rdOk L T) = true) {t : Nat} {l : TL} (hl : look L t = some l) (ht : t ∈ T) {v : Value} {d : DataW H} {p : List MemPlace} {b : Nat}
    (hv : Value.okWide P w .any b t v) (h : DataW.Trod enc P w base (fun _ => true) held t v d p) : ∃ x : D l.ty, (∀ B μ, R (FH w) B w μ (.val l.ty x) v) ∧ Good' l.ty x := by
  obtain ⟨n, h⟩ := h
  obtain ⟨l', hl', x, h1, h2⟩ := read_ok hE hT n t _ _ ht h
  rw [hl] at hl'; cases hl'
  refine ⟨x, fun B μ => ?_, h2⟩
  simp only [R]
  have lay := hE t l hl
  obtain ⟨dsc, hd, hagg⟩ := lay.und
  cases ha : l.ty.agg with
  | true =>
    rw [ha] at hagg
    have : ∃ cs, v = .agg cs := by
      unfold Value.okWide at hv
      rw [hd] at hv
      split at hv
      · obtain ⟨cs, e, _⟩ := hv; exact ⟨cs, e⟩
      · obtain ⟨cs, e, _⟩ := hv; exact ⟨cs, e⟩
      · rename_i n1 n2
        cases dsc <;> simp at hagg
        · exact (n2 _ _ rfl).elim
        · exact (n1 _ rfl).elim
    obtain ⟨cs, rfl⟩ := this
    exact ⟨cs, rfl, h1⟩
  | false =>
    have hw := h1.len
    have : v.cells.toList = [v] := by
      by_cases hc : ∃ cs, v = .agg cs
      · exfalso
        obtain ⟨cs, rfl⟩ := hc
        unfold Value.okWide at hv
        rw [hd] at hv
        rw [ha] at hagg
        cases dsc <;> simp at hagg <;> simp [Cell.okWide, hd, Cell.ok] at hv
      · cases v <;> first | rfl | exact absurd ⟨_, rfl⟩ hc
    rw [this] at h1
    exact h1
end
end Go.E

set_option linter.unusedVariables false
namespace Go.E
open Go Go.RowKit

/-! From a law's contract to what its row says. -/

section
variable {H : Type} {enc : TypeId × Value → H} {P : Program} {w : World} {base : Nat} {held : Bool} {L : List (Nat × TL)} {T : List Nat}

theorem arg_ok' (hE : (L.all fun p => layOk P L p.1 p.2) = true) (hT : T.all (rdOk L T) = true) {t : Nat} {τ : Ty} (hl : (look L t).map (·.ty) = some τ) (ht : T.contains t = true) {v : Value} {d : DataW H} {p : List MemPlace} {b : Nat}
    (hv : Value.okWide P w .any b t v) (h : DataW.Trod enc P w base (fun _ => true) held t v d p) : ∃ x : D τ, (∀ B μ, R (FH w) B w μ (.val τ x) v) ∧ Good' τ x := by
  rw [Option.map_eq_some_iff] at hl
  obtain ⟨l, hl, rfl⟩ := hl
  exact arg_ok (lays_ok hE) hT hl (by simpa using ht) hv h
end

section
variable {P : Program} {G : List (Nat × List V)} {A B : Nat → Prop} {w : World} {io : Nat → Option MB}

theorem argR_vals {offs : List (Nat × Nat)} : ∀ (args : List V) (avs : List AV) (i : Nat) (vs : List Value), Match offs [] i args avs → RL A B w noMu args vs → ArgR A B w io i avs vs
  | [], [], i, vs, _, h => by cases vs with | nil => trivial | cons _ _ => simp [RL] at h
  | x :: r, av :: avs, i, vs, hm, h => by
    cases vs with
    | nil => simp [RL] at h
    | cons v vs =>
      simp only [RL] at h
      obtain ⟨h1, h2⟩ := hm
      cases av with
      | fr y => exact ⟨by rw [← h1.1]; exact h.1, argR_vals r avs (i + 1) vs h2 h.2⟩
      | st cs => exact absurd h1.2 (by simp)
      | io τ l => exact absurd h1.2 (by simp)
      | mx cs off τ l => exact absurd h1.2.1 (by simp)
  | [], _ :: _, _, _, hm, _ => hm.elim
  | _ :: _, [], _, _, hm, _ => hm.elim

/-- A law that answers true. -/
theorem law_true {g : Nat} {c : Entry} (hs : SatC P [] g c) {args : List V} {res : Res} (hr : c Res args some = some res) (hv : res.v = .val .bool true) (ho : res.outs = []) {vs : Array Value}
    (hR : RL (FH w) (fun _ => False) w noMu args vs.toList) {fn : Func} (hf : P.funcs[g]? = some fn) (hb : fn.body.isSome = true) (hn : (fn.name == "runtime.NumGoroutine") = false) :
    Calls P g vs w fun e w' => e = .returned (.bool true) ∧ Below w.heap.size w w' := by
  obtain ⟨avs, res', hm, hsat, e⟩ := hs Res args some res hr
  cases e
  rw [ho] at hm
  have hd := hsat w (FH w) (fun _ => False) (fun _ => none) vs (fun _ h => h) (fun _ h => h.elim) (fun g cs h => (nomatch h))
    ⟨fun b ⟨i, q, ad, h, _⟩ => (nomatch h), fun i j q q' ad ad' h => (nomatch h)⟩ (argR_vals args avs 0 vs.toList hm hR)
  have henter : (callFunc g vs).run P w = .ok (.enter g vs) w := by
    obtain ⟨body, hbo⟩ := Option.isSome_iff_exists.1 hb
    have h1 : ¬ fn.name = "runtime.NumGoroutine" := by simpa using hn
    simp [callFunc, hf, h1, hbo]
  rcases hd with ⟨_, hc⟩ | ⟨v, w', h1, _⟩
  · refine hc.mono fun e w' ⟨v, he, F, μ, k⟩ => ?_
    subst he
    have hval := k.val
    rw [hv] at hval
    simp only [R, Ty.agg, RC] at hval
    cases hval
    refine ⟨rfl, k.ext.os, k.ext.tape, k.ext.output, k.ext.size, fun b hlt => k.ext.block b hlt ?_⟩
    rintro ⟨i, q, ad, h, _⟩
    cases h
  · rw [henter] at h1; cases h1

/-- The same, beside package-level variables of which something is known. -/
theorem law_trueG {B : Nat → Prop} (hB : ∀ b, B b → b < w.heap.size) (hG : ∀ g cs, look G g = some cs → R (FH w) B w noMu (.rc cs) (.pointer (some ⟨g, 0, none⟩))) {g : Nat} {c : Entry} (hs : SatC P G g c) {args : List V} {res : Res} (hr : c Res args some = some res) (hv : res.v = .val .bool true) (ho : res.outs = []) {vs : Array Value}
    (hR : RL (FH w) B w noMu args vs.toList) {fn : Func} (hf : P.funcs[g]? = some fn) (hb : fn.body.isSome = true) (hn : (fn.name == "runtime.NumGoroutine") = false) :
    Calls P g vs w fun e w' => e = .returned (.bool true) ∧ Below w.heap.size w w' := by
  obtain ⟨avs, res', hm, hsat, e⟩ := hs Res args some res hr
  cases e
  rw [ho] at hm
  have hd := hsat w (FH w) B (fun _ => none) vs (fun _ h => h) hB hG
    ⟨fun b ⟨i, q, ad, h, _⟩ => (nomatch h), fun i j q q' ad ad' h => (nomatch h)⟩ (argR_vals args avs 0 vs.toList hm hR)
  have henter : (callFunc g vs).run P w = .ok (.enter g vs) w := by
    obtain ⟨body, hbo⟩ := Option.isSome_iff_exists.1 hb
    have h1 : ¬ fn.name = "runtime.NumGoroutine" := by simpa using hn
    simp [callFunc, hf, h1, hbo]
  rcases hd with ⟨_, hc⟩ | ⟨v, w', h1, _⟩
  · refine hc.mono fun e w' ⟨v, he, F, μ, k⟩ => ?_
    subst he
    have hval := k.val
    rw [hv] at hval
    simp only [R, Ty.agg, RC] at hval
    cases hval
    refine ⟨rfl, k.ext.os, k.ext.tape, k.ext.output, k.ext.size, fun b hlt => k.ext.block b hlt ?_⟩
    rintro ⟨i, q, ad, h, _⟩
    cases h
  · rw [henter] at h1; cases h1

theorem satC_none {g : Nat} {ps : List PT} {ros : List (ResultVar × RO)} {f : D (tupTy (ps.map PT.ty)) → Option (D (tupTy (ros.map (·.2.ty) ++ outTys ps)))} (h : ∀ x, f x = none) : SatC P G g (entry ps ros f) := fun ρ args K r e => by
  unfold entry at e
  split at e
  · rw [h] at e; cases e
  · cases e

theorem satC_G {g : Nat} {c : Entry} (h : SatC P [] g c) : SatC P G g c := fun ρ args K r e => by
  obtain ⟨avs, res, h1, h2, h3⟩ := h ρ args K r e
  exact ⟨avs, res, h1, fun w A B io vs hA hB _ hio ha => h2 w A B io vs hA hB (fun g cs e => (nomatch e)) hio ha, h3⟩

theorem satC_lim {g : Nat} {ps : List PT} {ros : List (ResultVar × RO)} {f : Nat → D (tupTy (ps.map PT.ty)) → Option (D (tupTy (ros.map (·.2.ty) ++ outTys ps)))} (h : ∀ k, SatC P G g (entry ps ros (f k))) : SatC P G g (entry ps ros fun x => lim fun k => f k x) := fun ρ args K r e => by
  unfold entry at e
  split at e
  · rename_i x hx
    obtain ⟨y, hy, hK⟩ := bindO_some e
    obtain ⟨k, hk⟩ := lim_some hy
    refine h k ρ args K r ?_
    unfold entry
    rw [hx]
    simp only
    rw [hk]; exact hK
  · cases e

theorem EnvC.nilG {L : List (Nat × TL)} (h : (L.all fun p => layOk P L p.1 p.2) = true) (hG : (G.all fun p => p.2.all idFree) = true) : EnvC P { L := L, G := G, C := [] } :=
  ⟨⟨⟨fun f d e => (nomatch e)⟩, lays_ok h⟩, fun f d e => (nomatch e), fun g cs e => by
    rw [List.all_eq_true] at hG
    exact hG (g, cs) (look_of_mem e)⟩
end

theorem okE_cons {L : List (Nat × TL)} {G : List (Nat × List V)} {C : List (Nat × Entry)} {g : Nat} {c : Entry} (h : Env.ok { L := L, G := G, C := C }) (hn : Natu c) : Env.ok { L := L, G := G, C := (g, c) :: C } :=
  ⟨fun f d e => by
    have e' : look ((g, c) :: C) f = some d := e
    rw [look_consU] at e'
    split at e'
    · cases e'; exact hn
    · exact h.nat f d e'⟩

/-! A region of several orders, in equations. -/

section
variable {E : Env} {A : Ann} {ρ : Type}

def forkLhs (E : Env) (A : Ann) (c : Code) (s : St) : List (Option St) := match c with
  | .region id ops true => match look A.fk id with
    | some p => p.1.lin.tail.map fun o => drawK E ops o [] (frzS p.2.2.2 s).n (frzS p.2.2.2 s) (fun s => some (canon A.kp p.2.2.1 s))
    | none => []
  | _ => []

def forkRhs (E : Env) (A : Ann) (c : Code) (s : St) : List (Option St) := match c with
  | .region id ops true => match look A.fk id with
    | some p => p.1.lin.tail.map fun _ => drawK E ops (p.1.lin.headD []) [] (frzS p.2.2.2 s).n (frzS p.2.2.2 s) (fun s => some (canon A.kp p.2.2.1 s))
    | none => []
  | _ => []

def forkE (E : Env) (A : Ann) (c : Code) (s : St) (κ : Kt ρ) : Option ρ := match c with
  | .region id ops true => match look A.fk id with
    | some p => drawK E ops (p.1.lin.headD []) [] (frzS p.2.2.2 s).n (frzS p.2.2.2 s) (fun s => κ .normal (canon A.kp p.2.2.1 s))
    | none => none
  | _ => none

noncomputable def orC (E : Env) (A : Ann) (c : Code) (s : St) (κ : Kt ρ) : Option ρ := match c with
  | .region id ops true => match look A.fk id with
    | some p => orP E A ops p s (κ .normal)
    | none => none
  | _ => none

theorem forkL_of {ops : Array Oper} {base : Nat} {s : St} {C : St → Option St} {o0 : List (Nat × Bool)} : ∀ (l : List (List (Nat × Bool))), (l.map fun o => drawK E ops o [] base s C) = (l.map fun _ => drawK E ops o0 [] base s C) → forkL E ops base s C o0 l
  | [], _ => trivial
  | x :: r, h => by
    simp only [List.map_cons, List.cons.injEq] at h
    exact ⟨h.1, forkL_of r h.2⟩

theorem orK_eq {kp live : List Nat} {ops : Array Oper} {t : Sc} {base : Nat} {s : St} {K : St → Option ρ}
    (h : (t.lin.tail.map fun o => drawK E ops o [] base s (fun s => some (canon kp live s))) = (t.lin.tail.map fun _ => drawK E ops (t.lin.headD []) [] base s (fun s => some (canon kp live s)))) :
    orK E kp live ops t base s K = drawK E ops (t.lin.headD []) [] base s (fun s => K (canon kp live s)) := by
  unfold orK
  cases hl : t.lin with
  | nil => exact absurd hl (lin_ne t)
  | cons o0 r =>
    rw [hl] at h
    simp only [List.tail_cons, List.headD_cons] at h ⊢
    rw [if_pos (forkL_of r h)]

theorem join_fork {c : Code} {s : St} {κ : Kt ρ} (X : List (Option St)) (h : forkLhs E A c s = X) (h' : forkRhs E A c s = X) : hide (fun s => orC E A c s κ) s = forkE E A c s κ := by
  have h : forkLhs E A c s = forkRhs E A c s := h.trans h'.symm
  rw [hide_eq]
  simp only [orC]
  unfold forkE
  split
  · rename_i id ops
    split
    · rename_i p hp
      simp only [forkLhs, forkRhs, hp] at h
      simp only [orP]
      rw [orK_eq h]
    · rfl
  · rfl
end
end Go.E

