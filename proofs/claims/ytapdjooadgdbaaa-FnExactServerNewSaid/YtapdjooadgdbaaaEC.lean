/- Calls, regions, loops: the evaluator is the machine's. No condition. -/
import Derived.Test.YtapdjooadgdbaaaEB
set_option linter.unusedVariables false
namespace Go.E
open Go Go.RowKit

/-! Calls: what is said of a function. -/

/-- An argument: handed over as a value, or in place. -/
inductive AV
  | fr (v : V)
  | st (cs : List V)
  | io (τ : Ty) (l : List (D τ))
  /-- A struct, one field of which is handed in place. -/
  | mx (cs : List V) (off : Nat) (τ : Ty) (l : List (D τ))

def noMu : Mu := fun _ => none

def ArgR (A B : Nat → Prop) (w : World) (io : Nat → Option MB) : Nat → List AV → List Value → Prop
  | _, [], [] => True
  | i, av :: r, v :: vs => (match av with
      | .fr x => R A B w noMu x v
      | .st cs => ∃ q ad, io i = some q ∧ q.a = some ad ∧ v = .pointer (some ⟨ad.block, ad.off, none⟩) ∧ BoxRel A B w noMu (.cs cs) q
      | .io τ l => ∃ q, io i = some q ∧ v = .slice q.a q.len q.cap ∧ BoxRel A B w noMu (.rows τ l) q
      | .mx cs off τ l => ∃ q us, io i = some q ∧ v = .agg us ∧ RL A B w noMu (cs.set off .undef) us.toList ∧ us.toList[off]? = some (.slice q.a q.len q.cap) ∧ BoxRel A B w noMu (.rows τ l) q) ∧ ArgR A B w io (i + 1) r vs
  | _, _, _ => False

def IOb (io : Nat → Option MB) (b : Nat) : Prop := ∃ i q ad, io i = some q ∧ q.a = some ad ∧ b = ad.block

structure IoOk (A B : Nat → Prop) (w : World) (io : Nat → Option MB) : Prop where
  apart : ∀ b, IOb io b → ¬ A b ∧ ¬ B b ∧ b < w.heap.size
  inj : ∀ i j q q' ad ad', io i = some q → io j = some q' → q.a = some ad → q'.a = some ad' → ad.block = ad'.block → i = j

structure ResR (A B : Nat → Prop) (w : World) (io : Nat → Option MB) (res : Res) (w' : World) (v : Value) (F : Nat → Prop) (μ : Mu) : Prop where
  ext : Ext (IOb io) w w'
  fz : ∀ b, F b → A b ∨ (w.heap.size ≤ b ∧ b < w'.heap.size)
  val : R F B w' μ res.v v
  bs : ∀ i x, res.bs[i]? = some x → ∃ q, μ i = some (some q) ∧ BoxRel F B w' noMu x q ∧ ∀ ad, q.a = some ad → ¬ F ad.block ∧ w.heap.size ≤ ad.block ∧ ad.block < w'.heap.size
  dom : ∀ i, res.bs.length ≤ i → μ i = none
  bsInj : ∀ i j q q' ad ad', i < res.bs.length → j < res.bs.length → μ i = some (some q) → μ j = some (some q') → q.a = some ad → q'.a = some ad' → ad.block = ad'.block → i = j
  outs : ∀ i x, (i, x) ∈ res.outs → ∃ q, io i = some q ∧ BoxRel F B w' noMu x q
  outsF : ∀ b, IOb io b → ¬ F b

/-- A call of a function: it is entered and returns, or it yields at once. -/
def Does (P : Program) (g : Nat) (vs : Array Value) (w : World) (K : Value → World → Prop) : Prop :=
  ((callFunc g vs).run P w = .ok (.enter g vs) w ∧ Calls P g vs w fun e w' => ∃ v, e = .returned v ∧ K v w') ∨ ∃ v w', (callFunc g vs).run P w = .ok (.value v) w' ∧ K v w'

def SatAt (P : Program) (G : List (Nat × List V)) (g : Nat) (avs : List AV) (res : Res) : Prop :=
  ∀ (w : World) (A B : Nat → Prop) (io : Nat → Option MB) (vs : Array Value), (∀ b, A b → b < w.heap.size) → (∀ b, B b → b < w.heap.size) →
    (∀ g cs, look G g = some cs → R A B w noMu (.rc cs) (.pointer (some ⟨g, 0, none⟩))) → IoOk A B w io → ArgR A B w io 0 avs vs.toList →
    Does P g vs w fun v w' => ∃ F μ, ResR A B w io res w' v F μ

/-- The arguments as they are handed, and as they are told: 'o': the places of those handed in place. -/
def Match (offs : List (Nat × Nat)) (o : List Nat) : Nat → List V → List AV → Prop
  | _, [], [] => True
  | i, x :: r, av :: avs => (match av with
      | .fr y => x = y ∧ i ∉ o
      | .st cs => x = .rc cs ∧ i ∈ o
      | .io τ l => x = .val (.sl τ) l ∧ i ∈ o
      | .mx cs off τ l => (∃ (σ : Ty) (y : D σ), x = .val σ y ∧ σ.agg = true ∧ cs = leafs σ y ∧ rowAt cs off τ = some l) ∧ i ∈ o ∧ look offs i = some off) ∧ Match offs o (i + 1) r avs
  | _, _, _ => False

def SatC (P : Program) (G : List (Nat × List V)) (g : Nat) (c : Entry) : Prop :=
  ∀ (ρ : Type) (args : List V) (K : Res → Option ρ) (r : ρ), c ρ args K = some r → ∃ avs res, Match res.offs (res.outs.map (·.1)) 0 args avs ∧ SatAt P G g avs res ∧ K res = some r

section
variable {P : Program} {E : Env} {G : List (Nat × List V)} {w0 : World} {Ob A B F X : Nat → Prop} {μ : Mu} {m : Hp} {w w' : World} {base : Nat} {s : St} {a : Act} {v : V} {m' : Hp}

theorem addBoxes_at (base : Nat) : ∀ (bs : List Bx) (k : Nat) (m : Hp) (c : Nat), (addBoxes base k bs m).at c = if base + k ≤ c ∧ c < base + k + bs.length then bs[c - (base + k)]? else m.at c
  | [], k, m, c => by simp only [addBoxes, List.length_nil, Nat.add_zero]; rw [if_neg (by omega)]
  | b :: bs, k, m, c => by
    rw [addBoxes, addBoxes_at base bs (k + 1), Hp.at_cons]
    simp only [List.length_cons]
    by_cases h1 : base + k = c
    · subst h1
      rw [if_neg (by omega), if_pos rfl, if_pos (by omega)]; simp
    · by_cases h2 : base + (k + 1) ≤ c ∧ c < base + (k + 1) + bs.length
      · rw [if_pos h2, if_pos (by omega), show c - (base + k) = (c - (base + (k + 1))) + 1 by omega, List.getElem?_cons_succ]
      · rw [if_neg h2, if_neg h1, if_neg (by omega)]

/-- The kinds of what is handed in place. -/
def KindOk (offs : List (Nat × Nat)) (args : List V) (i : Nat) (x : Bx) (b : Nat) (o : Option Bx) : Prop :=
  (look offs i = none ∧ args[i]? = some (.ptr b 0) ∧ ∃ cs ds, o = some (.cs cs) ∧ x = .cs ds ∧ cs.length = ds.length) ∨ (look offs i = none ∧ args[i]? = some (.arr b) ∧ ∃ σ l l', o = some (.rows σ l) ∧ x = .rows σ l') ∨
  (∃ off cs, look offs i = some off ∧ args[i]? = some (.agg cs) ∧ cs[off]? = some (.arr b) ∧ (cs.set off .nil).all idFree = true ∧ ∃ σ l l', o = some (.rows σ l) ∧ x = .rows σ l')

def OutsR (offs : List (Nat × Nat)) (args : List V) (m : Hp) : List (Nat × Bx) → List Nat → Prop
  | [], [] => True
  | (i, x) :: r, b :: bs => KindOk offs args i x b (m.at b) ∧ OutsR offs args m r bs
  | _, _ => False

def outAt : List (Nat × Bx) → List Nat → Nat → Option Bx → Option Bx
  | (_, x) :: r, b :: bs, c, o => if c = b then some x else outAt r bs c o
  | _, _, _, o => o

theorem outAt_not {c : Nat} {o : Option Bx} : ∀ (outs : List (Nat × Bx)) (ids : List Nat), c ∉ ids → outAt outs ids c o = o
  | [], _, _ => rfl
  | _ :: _, [], _ => rfl
  | (_, x) :: r, b :: bs, h => by
    simp only [List.mem_cons, not_or] at h
    rw [outAt, if_neg h.1]; exact outAt_not r bs h.2

theorem OutsR.congr {offs : List (Nat × Nat)} {args : List V} {m m2 : Hp} : ∀ (outs : List (Nat × Bx)) (ids : List Nat), (∀ b ∈ ids, m2.at b = m.at b) → OutsR offs args m outs ids → OutsR offs args m2 outs ids
  | [], [], _, _ => trivial
  | (i, x) :: r, b :: bs, h, k => ⟨by rw [h b (by simp)]; exact k.1, OutsR.congr r bs (fun c hc => h c (by simp [hc])) k.2⟩
  | [], _ :: _, _, k => k.elim
  | _ :: _, [], _, k => k.elim

theorem outsH_ok {offs : List (Nat × Nat)} {args : List V} : ∀ (outs : List (Nat × Bx)) (used : List Nat) (m m1 : Hp), outsH args offs used outs m = some m1 →
    ∃ ids, ids.Nodup ∧ (∀ b ∈ ids, b ∉ used) ∧ OutsR offs args m outs ids ∧ ∀ c, m1.at c = outAt outs ids c (m.at c)
  | [], used, m, m1, h => by simp only [outsH, Option.some.injEq] at h; subst h; exact ⟨[], by simp, by simp, trivial, fun c => rfl⟩
  | (i, x) :: r, used, m, m1, h => by
    have fin : ∀ b x', b ∉ used → KindOk offs args i x b (m.at b) → x' = x → outsH args offs (b :: used) r ((b, some x') :: m) = some m1 → ∃ ids, ids.Nodup ∧ (∀ b ∈ ids, b ∉ used) ∧ OutsR offs args m ((i, x) :: r) ids ∧ ∀ c, m1.at c = outAt ((i, x) :: r) ids c (m.at c) := by
      rintro b x' hu hk rfl hr
      obtain ⟨ids, n1, n2, n3, n4⟩ := outsH_ok r (b :: used) _ _ hr
      have hb : b ∉ ids := fun hb => n2 b hb (by simp)
      refine ⟨b :: ids, List.nodup_cons.2 ⟨hb, n1⟩, fun c hc => ?_, ⟨hk, n3.congr r ids (fun c hc => ?_)⟩, fun c => ?_⟩
      · rcases List.mem_cons.1 hc with rfl | hc
        · exact hu
        · have := n2 c hc; simp only [List.mem_cons, not_or] at this; exact this.2
      · rw [Hp.at_cons, if_neg (fun e : b = c => hb (e ▸ hc))]
      · rw [n4, Hp.at_cons, outAt]
        by_cases e : c = b
        · subst e; rw [if_pos rfl, if_pos rfl, outAt_not _ _ hb]
        · rw [if_neg (fun e' => e e'.symm), if_neg e]
    simp only [outsH] at h
    split at h
    · rename_i hoff
      split at h
      · rename_i b ha
        split at h
        · cases h
        rename_i hu
        split at h
        · rename_i cs ds hm
          split at h
          · rename_i hl
            exact fin b _ (by simpa using hu) (.inl ⟨hoff, ha, cs, ds, hm, rfl, hl⟩) rfl h
          · cases h
        · cases h
      · rename_i b ha
        split at h
        · cases h
        rename_i hu
        split at h
        · rename_i σ l τ l' hm
          split at h
          · rename_i hl; subst hl
            exact fin b _ (by simpa using hu) (.inr (.inl ⟨hoff, ha, σ, l, l', hm, rfl⟩)) rfl h
          · cases h
        · cases h
      · cases h
    · rename_i off hoff
      split at h
      · rename_i cs ha
        split at h
        · rename_i b hcs
          split at h
          · cases h
          rename_i hu
          split at h
          · rename_i hfree
            split at h
            · rename_i σ l τ l' hm
              split at h
              · rename_i hl; subst hl
                exact fin b _ (by simpa using hu) (.inr (.inr ⟨off, cs, hoff, ha, hcs, hfree, σ, l, l', hm, rfl⟩)) rfl h
              · cases h
            · cases h
          · cases h
        · cases h
      · cases h

theorem Ext.same {Ob' : Nat → Prop} (h : Ext Ob' w w') {b : Nat} (hb : b < w.heap.size) (hn : ¬ Ob' b) : Same w w' b := fun off => by
  have := h.block b hb hn
  exact ⟨by simp [World.cell?, this], by simp [World.frozen?, this]⟩
end
end Go.E

set_option linter.unusedVariables false
namespace Go.E
open Go Go.RowKit

section
variable {P : Program} {E : Env} {G : List (Nat × List V)} {w0 : World} {Ob A B F F' A' B' X : Nat → Prop} {μ μ' : Mu} {m : Hp} {w w' : World} {base : Nat} {s : St} {a : Act} {v : V} {m' : Hp}

theorem idFree_R (hF : ∀ b, F b → F' b) (hk : Keep F w w') {v : V} {cv : Value} (hv : idFree v = true) (h : R F B w μ v cv) : R F' B' w' μ' v cv := by
  cases v <;> simp [idFree] at hv
  · rename_i τ x
    simp only [R] at h ⊢
    cases hτ : τ.agg with
    | true => rw [hτ] at h; obtain ⟨cs, e, k⟩ := h; exact ⟨cs, e, k.mono hF hk⟩
    | false => rw [hτ] at h; exact RC.mono hF hk h
  · simp only [R] at h ⊢; exact h
  · simp only [R] at h ⊢; exact h

theorem idFree_RL (hF : ∀ b, F b → F' b) (hk : Keep F w w') : ∀ {cs : List V} {vs : List Value}, cs.all idFree = true → RL F B w μ cs vs → RL F' B' w' μ' cs vs
  | [], [], _, _ => by simp only [RL]
  | a :: x, b :: y, hc, h => by
    simp only [List.all_cons, Bool.and_eq_true] at hc
    simp only [RL] at h ⊢
    exact ⟨idFree_R hF hk hc.1 h.1, idFree_RL hF hk hc.2 h.2⟩
  | [], _ :: _, _, h => by simp only [RL] at h
  | _ :: _, [], _, h => by simp only [RL] at h

theorem keep_refl (F : Nat → Prop) (w : World) : Keep F w w := fun _ _ _ _ e => e

theorem asm_right (m : Hp) : ∀ (τ : Ty) {cs : List V} {x : D τ} {r : List V} {off : Nat}, asm m τ cs = some (x, r) → τ.width ≤ off → ∀ v, asm m τ (cs.set off v) = some (x, r.set (off - τ.width) v) := by
  intro τ
  induction τ with
  | pr a b iha ihb =>
    intro cs x r off h ho v
    have ho : a.width + b.width ≤ off := ho
    simp only [asm] at h ⊢
    split at h
    · rename_i x1 r1 h1
      split at h
      · rename_i x2 r2 h2
        cases h
        have k1 := iha h1 (off := off) (by omega) v
        have k2 := ihb h2 (off := off - a.width) (by omega) v
        simp only [k1, k2, Ty.width, Nat.sub_sub]
      · cases h
    · cases h
  | q =>
    intro cs x r off h ho v
    have ho : 6 ≤ off := ho
    obtain ⟨n, rfl⟩ : ∃ n, off = n + 6 := ⟨off - 6, by omega⟩
    simp only [asm] at h
    split at h
    · split at h
      · rename_i h1 h2 h3 h4 h5 h6
        cases h
        simp only [List.set_cons_succ, asm, h1, h2, h3, h4, h5, h6, Ty.width, Nat.add_sub_cancel]
      · cases h
    · cases h
  | unit =>
    intro cs x r off h ho v
    simp only [asm, Option.some.injEq, Prod.mk.injEq] at h ⊢
    obtain ⟨_, rfl⟩ := h
    exact ⟨trivial, by simp [Ty.width]⟩
  | int k =>
    intro cs x r off h ho v
    obtain ⟨c, rfl, h'⟩ := asm_leaf rfl (by simp) h
    obtain ⟨n, rfl⟩ : ∃ n, off = n + 1 := ⟨off - 1, by have ho : 1 ≤ off := ho; omega⟩
    simp [asm, h', Ty.width]
  | bool =>
    intro cs x r off h ho v
    obtain ⟨c, rfl, h'⟩ := asm_leaf rfl (by simp) h
    obtain ⟨n, rfl⟩ : ∃ n, off = n + 1 := ⟨off - 1, by have ho : 1 ≤ off := ho; omega⟩
    simp [asm, h', Ty.width]
  | str =>
    intro cs x r off h ho v
    obtain ⟨c, rfl, h'⟩ := asm_leaf rfl (by simp) h
    obtain ⟨n, rfl⟩ : ∃ n, off = n + 1 := ⟨off - 1, by have ho : 1 ≤ off := ho; omega⟩
    simp [asm, h', Ty.width]
  | err =>
    intro cs x r off h ho v
    obtain ⟨c, rfl, h'⟩ := asm_leaf rfl (by simp) h
    obtain ⟨n, rfl⟩ : ∃ n, off = n + 1 := ⟨off - 1, by have ho : 1 ≤ off := ho; omega⟩
    simp [asm, h', Ty.width]
  | sl e _ =>
    intro cs x r off h ho v
    obtain ⟨c, rfl, h'⟩ := asm_leaf rfl (by simp) h
    obtain ⟨n, rfl⟩ : ∃ n, off = n + 1 := ⟨off - 1, by have ho : 1 ≤ off := ho; omega⟩
    simp [asm, h', Ty.width]

theorem leafs_width : ∀ (τ : Ty) (x : D τ), (leafs τ x).length = τ.width
  | .pr a b, x => by
    show (leafs a x.1 ++ leafs b x.2).length = _
    rw [List.length_append, leafs_width a, leafs_width b]; rfl
  | .q, _ => rfl
  | .unit, _ => rfl
  | .int _, _ => rfl
  | .bool, _ => rfl
  | .str, _ => rfl
  | .err, _ => rfl
  | .sl _, _ => rfl

/-- A cell of typed cells. -/
theorem asm_get (m : Hp) : ∀ (τ : Ty) {cs : List V} {x : D τ} {r : List V}, asm m τ cs = some (x, r) → r = cs.drop τ.width ∧ τ.width ≤ cs.length ∧
    ∀ off < τ.width, ∀ v, cs[off]? = some v → ∃ (σ : Ty) (y : D σ), (leafs τ x)[off]? = some (.val σ y) ∧ typed1 m σ v = some y := by
  have leaf : ∀ (τ : Ty), τ.width = 1 → ∀ {cs : List V} {x : D τ} {r : List V}, leafs τ x = [.val τ x] → (∃ v, cs = v :: r ∧ typed1 m τ v = some x) → r = cs.drop τ.width ∧ τ.width ≤ cs.length ∧
      ∀ off < τ.width, ∀ v, cs[off]? = some v → ∃ (σ : Ty) (y : D σ), (leafs τ x)[off]? = some (.val σ y) ∧ typed1 m σ v = some y := by
    rintro τ hw cs x r hl ⟨v, rfl, h⟩
    rw [hw, hl]
    refine ⟨rfl, by simp, fun off ho v' hv => ?_⟩
    obtain rfl : off = 0 := by omega
    simp at hv; subst hv
    exact ⟨τ, x, rfl, h⟩
  intro τ
  induction τ with
  | pr a b iha ihb =>
    intro cs x r h
    simp only [asm] at h
    split at h
    · rename_i x1 r1 h1
      split at h
      · rename_i x2 r2 h2
        cases h
        obtain ⟨e1, e2, e3⟩ := iha h1
        obtain ⟨f1, f2, f3⟩ := ihb h2
        subst e1
        rw [List.length_drop] at f2
        refine ⟨by rw [f1, List.drop_drop]; rfl, by show a.width + b.width ≤ _; omega, fun off ho v hv => ?_⟩
        show ∃ (σ : Ty) (y : D σ), (leafs a x1 ++ leafs b x2)[off]? = some (.val σ y) ∧ typed1 m σ v = some y
        have ho : off < a.width + b.width := ho
        by_cases hlt : off < a.width
        · rw [List.getElem?_append_left (by rw [leafs_width]; exact hlt)]
          exact e3 off hlt v hv
        · rw [List.getElem?_append_right (by rw [leafs_width]; omega), leafs_width]
          exact f3 (off - a.width) (by omega) v (by rw [List.getElem?_drop, Nat.add_sub_cancel' (by omega)]; exact hv)
      · cases h
    · cases h
  | q =>
    intro cs x r h
    simp only [asm] at h
    split at h
    · split at h
      · rename_i h1 h2 h3 h4 h5 h6
        cases h
        refine ⟨rfl, by simp [Ty.width], fun off ho v hv => ?_⟩
        have ho : off < 6 := ho
        rcases off with _ | _ | _ | _ | _ | _ | off <;> simp at hv
        · subst hv; exact ⟨_, _, rfl, h1⟩
        · subst hv; exact ⟨_, _, rfl, h2⟩
        · subst hv; exact ⟨_, _, rfl, h3⟩
        · subst hv; exact ⟨_, _, rfl, h4⟩
        · subst hv; exact ⟨_, _, rfl, h5⟩
        · subst hv; exact ⟨_, _, rfl, h6⟩
        · omega
      · cases h
    · cases h
  | unit =>
    intro cs x r h
    simp only [asm, Option.some.injEq, Prod.mk.injEq] at h
    obtain ⟨_, rfl⟩ := h
    exact ⟨rfl, Nat.zero_le _, fun off ho => absurd ho (Nat.not_lt_zero _)⟩
  | int k => intro cs x r h; exact leaf _ rfl rfl (asm_leaf rfl (by simp) h)
  | bool => intro cs x r h; exact leaf _ rfl rfl (asm_leaf rfl (by simp) h)
  | str => intro cs x r h; exact leaf _ rfl rfl (asm_leaf rfl (by simp) h)
  | err => intro cs x r h; exact leaf _ rfl rfl (asm_leaf rfl (by simp) h)
  | sl e _ => intro cs x r h; exact leaf _ rfl rfl (asm_leaf rfl (by simp) h)

theorem rowAt_some {cs : List V} {off : Nat} {σ : Ty} {l : List (D σ)} (h : rowAt cs off σ = some l) : cs[off]? = some (.val (.sl σ) l) := by
  unfold rowAt at h
  split at h
  · rename_i τ y hc
    obtain ⟨e, rfl⟩ := castD_some h
    subst e; exact hc
  · cases h

/-- Typed cells, a row taken out. -/
theorem asm_set (m : Hp) : ∀ (τ : Ty) {cs : List V} {x : D τ} {r : List V} {off : Nat} {σ : Ty} {l : List (D σ)}, asm m τ cs = some (x, r) → (leafs τ x)[off]? = some (.val (.sl σ) l) →
    ∃ x0 : D τ, asm m τ (cs.set off .nil) = some (x0, r) ∧ ∀ v, (leafs τ x).set off v = (leafs τ x0).set off v := by
  have leaf : ∀ (τ : Ty) {cs : List V} {x : D τ} {r : List V} {off : Nat} {σ : Ty} {l : List (D σ)}, leafs τ x = [.val τ x] → (∃ v, cs = v :: r ∧ typed1 m τ v = some x) → (leafs τ x)[off]? = some (.val (.sl σ) l) → off = 0 ∧ τ = .sl σ ∧ ∃ v, cs = v :: r := by
    rintro τ cs x r off σ l hl ⟨v, rfl, h⟩ hx
    rw [hl] at hx
    cases off with
    | succ n => simp at hx
    | zero =>
      simp at hx
      exact ⟨rfl, hx.1, v, rfl⟩
  intro τ
  induction τ with
  | pr a b iha ihb =>
    intro cs x r off σ l h hx
    simp only [asm] at h
    split at h
    · rename_i x1 r1 h1
      split at h
      · rename_i x2 r2 h2
        cases h
        obtain ⟨e1, e2, _⟩ := asm_get m a h1
        have hx : (leafs a x1 ++ leafs b x2)[off]? = some (.val (.sl σ) l) := hx
        by_cases hlt : off < a.width
        · rw [List.getElem?_append_left (by rw [leafs_width]; exact hlt)] at hx
          obtain ⟨x0, k1, k2⟩ := iha h1 hx
          refine ⟨(x0, x2), by simp only [asm, k1, h2], fun v => ?_⟩
          show (leafs a x1 ++ leafs b x2).set off v = (leafs a x0 ++ leafs b x2).set off v
          rw [List.set_append_left _ _ (by rw [leafs_width]; exact hlt), List.set_append_left _ _ (by rw [leafs_width]; exact hlt), k2]
        · rw [List.getElem?_append_right (by rw [leafs_width]; omega), leafs_width] at hx
          obtain ⟨x0, k1, k2⟩ := ihb h2 hx
          have h1' : asm m a (cs.set off .nil) = some (x1, r1.set (off - a.width) .nil) := asm_right m a h1 (by omega) _
          refine ⟨(x1, x0), by simp only [asm, h1', k1], fun v => ?_⟩
          show (leafs a x1 ++ leafs b x2).set off v = (leafs a x1 ++ leafs b x0).set off v
          rw [List.set_append_right _ _ (by rw [leafs_width]; omega), List.set_append_right _ _ (by rw [leafs_width]; omega), leafs_width, k2]
      · cases h
    · cases h
  | q =>
    intro cs x r off σ l h hx
    simp only [asm] at h
    split at h
    · split at h
      · rename_i h1 h2 h3 h4 h5 h6
        cases h
        rcases off with _ | _ | _ | _ | _ | _ | off <;> simp [leafs] at hx
        rename_i a' b' c' d' e' f'
        refine ⟨.mk a' b' c' d' e' [], ?_, fun v => rfl⟩
        simp only [List.set, asm, h1, h2, h3, h4, h5]
        rfl
      · cases h
    · cases h
  | unit => intro cs x r off σ l h hx; simp [leafs] at hx
  | int k => intro cs x r off σ l h hx; have := (leaf _ rfl (asm_leaf rfl (by simp) h) hx).2.1; cases this
  | bool => intro cs x r off σ l h hx; have := (leaf _ rfl (asm_leaf rfl (by simp) h) hx).2.1; cases this
  | str => intro cs x r off σ l h hx; have := (leaf _ rfl (asm_leaf rfl (by simp) h) hx).2.1; cases this
  | err => intro cs x r off σ l h hx; have := (leaf _ rfl (asm_leaf rfl (by simp) h) hx).2.1; cases this
  | sl e _ =>
    intro cs x r off σ l h hx
    obtain ⟨rfl, _, v, rfl⟩ := leaf _ rfl (asm_leaf rfl (by simp) h) hx
    exact ⟨([] : List (D e)), by simp [asm, typed1, rowsOf], fun v => rfl⟩

theorem set_same {α : Type} {l : List α} {i : Nat} {x : α} (h : l[i]? = some x) : l.set i x = l := by
  obtain ⟨h1, rfl⟩ := List.getElem?_eq_some_iff.1 h
  exact List.set_getElem_self h1

theorem RL.put {F B : Nat → Prop} {w : World} {μ : Mu} {v : V} {cv : Value} : ∀ {cs : List V} {vs : List Value} {i : Nat}, RL F B w μ cs vs → R F B w μ v cv → RL F B w μ (cs.set i v) (vs.set i cv)
  | [], vs, i, h, _ => by cases vs with | nil => simp [RL] | cons _ _ => simp [RL] at h
  | c :: cs, [], i, h, _ => by simp [RL] at h
  | c :: cs, x :: vs, 0, h, hr => by simp only [List.set_cons_zero, RL] at h ⊢; exact ⟨hr, h.2⟩
  | c :: cs, x :: vs, i + 1, h, hr => by simp only [List.set_cons_succ, RL] at h ⊢; exact ⟨h.1, RL.put h.2 hr⟩

/-- A struct's other cells, beside one that is told anew. -/
theorem RL_swap {F F' B B' : Nat → Prop} {w w' : World} {μ μ' : Mu} (hF : ∀ b, F b → F' b) (hk : Keep F w w') {u v : V} {cv : Value} : ∀ {cs : List V} {vs : List Value} {off : Nat}, RL F B w μ (cs.set off u) vs → vs[off]? = some cv → R F' B' w' μ' v cv → (cs.set off .nil).all idFree = true →
    RL F' B' w' μ' (cs.set off v) vs
  | [], vs, off, h, hv, hr, _ => by cases vs with | nil => simp at hv | cons _ _ => simp [RL] at h
  | c :: cs, [], off, h, hv, hr, _ => by simp at hv
  | c :: cs, x :: vs, 0, h, hv, hr, hf => by
    simp only [List.set_cons_zero, RL] at h ⊢
    simp only [List.set_cons_zero, List.all_cons, Bool.and_eq_true] at hf
    simp at hv; subst hv
    exact ⟨hr, idFree_RL hF hk hf.2 h.2⟩
  | c :: cs, x :: vs, off + 1, h, hv, hr, hf => by
    simp only [List.set_cons_succ, RL] at h ⊢
    simp only [List.set_cons_succ, List.all_cons, Bool.and_eq_true] at hf
    exact ⟨idFree_R hF hk hf.1 h.1, RL_swap hF hk h.2 (by simpa using hv) hr hf.2⟩

theorem all_set {cs : List V} {off : Nat} {v : V} (h : cs.all idFree = true) (hv : idFree v = true) : (cs.set off v).all idFree = true := by
  rw [List.all_eq_true] at h ⊢
  intro x hx
  rcases List.mem_or_eq_of_mem_set hx with hx | rfl
  · exact h x hx
  · exact hv

/-- The box of a variable, as one that is only read. -/
theorem handP_ok (h : Mem G w0 Ob A B F μ m w) (hF : ∀ b, F b → A' b) (hB : ∀ b, B b → B' b) {v : V} {cv : Value} (hr : R F B w μ v cv)
    (hp : ∀ b, v = .ptr b 0 → ∀ cs q ad, m.at b = some (.cs cs) → μ b = some (some q) → q.a = some ad → B' ad.block) : R A' B' w noMu (handP m v) cv := by
  have und : R A' B' w noMu .undef cv := by simp only [R]
  cases v with
  | ptr b off =>
    cases off with
    | succ n => simp only [handP, idFree]; exact und
    | zero =>
      simp only [handP]
      split
      · rename_i cs hb
        split
        · rename_i hi
          obtain ⟨q, e4, ad, vs, k1, k2, k3, k4, k5⟩ := h.box b _ hb
          simp only [R] at hr
          obtain ⟨o', e1, p, e2, e3⟩ := hr
          rw [e1] at e4; cases e4
          obtain ⟨ad', e5, rfl⟩ := e3 q rfl
          rw [k1] at e5; cases e5
          simp only [R]
          exact ⟨_, vs, e2, rfl, hp b rfl cs q ad hb e1 k1, idFree_RL hF (keep_refl _ _) hi k3, by simpa using k4⟩
        · exact und
      · exact und
  | rc cs =>
    simp only [handP]
    split
    · rename_i hi
      simp only [R] at hr ⊢
      obtain ⟨ad, vs, e1, e2, e3, e4, e5⟩ := hr
      exact ⟨ad, vs, e1, e2, hB _ e3, idFree_RL hF (keep_refl _ _) hi e4, e5⟩
    · exact und
  | rp τ x =>
    simp only [handP]
    simp only [R] at hr ⊢
    obtain ⟨ad, cs, e1, e2, e3, e4, e5⟩ := hr
    exact ⟨ad, cs, e1, e2, hF _ e3, e4.mono hF (keep_refl _ _), e5⟩
  | val τ x => exact idFree_R (B := B) (μ := μ) hF (keep_refl _ _) (v := .val τ x) rfl hr
  | nil => exact idFree_R (B := B) (μ := μ) hF (keep_refl _ _) (v := .nil) rfl hr
  | nilp => exact idFree_R (B := B) (μ := μ) hF (keep_refl _ _) (v := .nilp) rfl hr
  | undef => exact und
  | agg cs => exact und
  | tup cs => exact und
  | arr b => exact und
  | ep b i off => exact und
  | fn f cs => exact und

/-- The boxes of variables that a value names. -/
def ptrs : V → List Nat
  | .ptr b 0 => [b]
  | .fn _ caps => caps.filterMap fun v => match v with | .ptr b 0 => some b | _ => none
  | _ => []

def InP (Y : Nat → Prop) (μ : Mu) (m : Hp) (l : List Nat) : Prop := ∀ b ∈ l, ∀ cs q ad, m.at b = some (.cs cs) → μ b = some (some q) → q.a = some ad → Y ad.block

theorem handL_ok (h : Mem G w0 Ob A B F μ m w) (hF : ∀ b, F b → A' b) (hB : ∀ b, B b → B' b) : ∀ {l : List V} {vs : List Value}, RL F B w μ l vs →
    InP B' μ m (l.filterMap fun v => match v with | .ptr b 0 => some b | _ => none) → RL A' B' w noMu (l.map (handP m)) vs
  | [], [], _, _ => by simp only [List.map_nil, RL]
  | a :: x, b :: y, hr, hp => by
    simp only [RL] at hr
    simp only [List.map_cons, RL]
    refine ⟨handP_ok h hF hB hr.1 (fun c e => ?_), handL_ok h hF hB hr.2 (fun c hc => hp c ?_)⟩
    · subst e; exact hp c (by simp)
    · rw [List.filterMap_cons]; split
      · exact hc
      · exact List.mem_cons_of_mem _ hc
  | [], _ :: _, h, _ => by simp only [RL] at h
  | _ :: _, [], h, _ => by simp only [RL] at h

theorem handed_ok (h : Mem G w0 Ob A B F μ m w) (hF : ∀ b, F b → A' b) (hB : ∀ b, B b → B' b) {v : V} {cv : Value} (hr : R F B w μ v cv) (hA : In A' μ m (arrs v)) (hp : InP B' μ m (ptrs v)) (τ : Option Ty) :
    R A' B' w noMu (handed m τ v) cv := by
  have und : R A' B' w noMu .undef cv := by simp only [R]
  have hP := handP_ok (A' := A') (B' := B') h hF hB hr (fun b e cs q ad => hp b (by subst e; simp [ptrs]) cs q ad)
  have gen : R A' B' w noMu (match τ with
    | none => handP m v
    | some τ => match typed m τ v with
      | some x => .val τ x
      | none => .undef) cv := by
    cases τ with
    | none => exact hP
    | some τ =>
      simp only
      split
      · rename_i x hx
        have k := typed_ok h hF hr hA hx
        simp only [R]
        cases hτ : τ.agg with
        | true => exact k.1 hτ
        | false => exact k.2 hτ
      · exact und
  cases v with
  | fn f caps =>
    simp only [handed]
    simp only [R] at hr ⊢
    obtain ⟨c, e, k⟩ := hr
    exact ⟨c, e, handL_ok h hF hB k hp⟩
  | rp τ x => simp only [handed]; simpa only [handP] using hP
  | rc cs => simp only [handed]; exact hP
  | nilp => simp only [handed]; simpa only [handP, idFree, if_true] using hP
  | val σ x => exact gen
  | undef => exact gen
  | nil => exact gen
  | agg cs => exact gen
  | tup cs => exact gen
  | arr b => exact gen
  | ptr b off => exact gen
  | ep b i off => exact gen

/-- What is handed in place. -/
def KeyOk (offs : List (Nat × Nat)) (m : Hp) (μ : Mu) (io : Nat → Option MB) (j : Nat) (v : V) : Prop :=
  (∃ b q cs, v = .ptr b 0 ∧ m.at b = some (.cs cs) ∧ μ b = some (some q) ∧ io j = some q) ∨ (∃ b q σ l, v = .arr b ∧ m.at b = some (.rows σ l) ∧ μ b = some (some q) ∧ io j = some q) ∨
  (∃ off cs b q σ l, look offs j = some off ∧ v = .agg cs ∧ cs[off]? = some (.arr b) ∧ (cs.set off .nil).all idFree = true ∧ m.at b = some (.rows σ l) ∧ μ b = some (some q) ∧ io j = some q)

/-- A struct is handed over as a value. -/
theorem handed_agg {m : Hp} {τ : Option Ty} {cs : List V} {v : V} (h : handed m τ (.agg cs) = v) : v = .undef ∨ ∃ σ x, v = .val σ x ∧ σ.agg = true ∧ asm m σ cs = some (x, []) := by
  cases τ with
  | none => left; rw [← h]; rfl
  | some τ =>
    simp only [handed] at h
    split at h
    · rename_i x hx
      right
      refine ⟨τ, x, h.symm, ?_⟩
      simp only [typed] at hx
      split at hx
      · rename_i hτ
        split at hx
        · rename_i y hy; cases hx; exact ⟨hτ, hy⟩
        · cases hx
      · cases hx
    · exact .inl h.symm

theorem key_st (h : Mem G w0 Ob A B F μ m w) (hF : ∀ b, F b → A' b) {io : Nat → Option MB} {j : Nat} {v : V} {cv : Value} {offs : List (Nat × Nat)} (hk : KeyOk offs m μ io j v) (hr : R F B w μ v cv) {τ : Option Ty} {cs : List V} (he : handed m τ v = .rc cs) :
    ∃ q ad, io j = some q ∧ q.a = some ad ∧ cv = .pointer (some ⟨ad.block, ad.off, none⟩) ∧ BoxRel A' B' w noMu (.cs cs) q := by
  rcases hk with ⟨b, q, cs0, rfl, hb, hq, hio⟩ | ⟨b, q, σ, l, rfl, hb, hq, hio⟩ | ⟨off, cs0, b, q, σ, l, _, rfl, _⟩
  · cases τ with
    | some τ => cases τ <;> simp [handed, typed, typed1, rowsOf] at he
    | none =>
      simp only [handed, handP, hb] at he
      split at he
      · rename_i hi
        cases he
        obtain ⟨q', e4, ad, vs, k1, k2, k3, k4, k5⟩ := h.box b _ hb
        rw [hq] at e4; cases e4
        simp only [R] at hr
        obtain ⟨o', e1, p, e2, e3⟩ := hr
        rw [hq] at e1; cases e1
        obtain ⟨ad', e5, rfl⟩ := e3 q rfl
        rw [k1] at e5; cases e5
        exact ⟨q, ad, hio, k1, e2, ad, vs, k1, k2, idFree_RL hF (keep_refl _ _) hi k3, k4, k5⟩
      · cases he
  · cases τ with
    | none => simp [handed, handP, idFree] at he
    | some τ =>
      simp only [handed] at he
      split at he <;> cases he
  · rcases handed_agg he with h | ⟨σ', x, h, _⟩ <;> cases h

theorem key_io (h : Mem G w0 Ob A B F μ m w) (hF : ∀ b, F b → A' b) {io : Nat → Option MB} {j : Nat} {v : V} {cv : Value} {offs : List (Nat × Nat)} (hk : KeyOk offs m μ io j v) (hr : R F B w μ v cv) {τ : Option Ty} {e : Ty} {l : List (D e)} (he : handed m τ v = .val (.sl e) l) :
    ∃ q, io j = some q ∧ cv = .slice q.a q.len q.cap ∧ BoxRel A' B' w noMu (.rows e l) q := by
  rcases hk with ⟨b, q, cs0, rfl, hb, hq, hio⟩ | ⟨b, q, σ, l0, rfl, hb, hq, hio⟩ | ⟨off, cs0, b, q, σ, l0, _, rfl, _⟩
  · cases τ with
    | some τ => cases τ <;> simp [handed, typed, typed1, rowsOf] at he
    | none =>
      simp only [handed, handP, hb] at he
      split at he <;> cases he
  · cases τ with
    | none => simp [handed, handP, idFree] at he
    | some τ =>
      simp only [handed] at he
      split at he
      · rename_i x hx
        cases he
        simp only [typed, typed1, rowsOf, hb] at hx
        obtain ⟨e1, rfl⟩ := castD_some hx
        cases e1
        obtain ⟨q', e4, k⟩ := h.box b _ hb
        rw [hq] at e4; cases e4
        simp only [R] at hr
        obtain ⟨o', e1, a0, n0, c0, rfl, e3⟩ := hr
        rw [hq] at e1; cases e1
        obtain ⟨rfl, rfl, rfl⟩ := e3 q rfl
        obtain ⟨k1, k2, k3, k4, k5⟩ := k
        exact ⟨q, hio, rfl, k1, k2, k3, k4, fun ad ea => ⟨(k5 ad ea).1, (k5 ad ea).2.1.mono hF (keep_refl _ _) (fun _ _ e => e), (k5 ad ea).2.2⟩⟩
      · cases he
  · rcases handed_agg he with h | ⟨σ', x, h, k, _⟩
    · cases h
    · cases h; cases k

theorem key_mx (h : Mem G w0 Ob A B F μ m w) (hF : ∀ b, F b → A' b) {io : Nat → Option MB} {j : Nat} {v : V} {cv : Value} {offs : List (Nat × Nat)} (hk : KeyOk offs m μ io j v) (hr : R F B w μ v cv) {τ : Option Ty} {σ : Ty} {y : D σ} (he : handed m τ v = .val σ y) (hσ : σ.agg = true)
    {off : Nat} (ho : look offs j = some off) {e : Ty} {l : List (D e)} (hl : rowAt (leafs σ y) off e = some l) :
    ∃ q us, io j = some q ∧ cv = .agg us ∧ RL A' B' w noMu ((leafs σ y).set off .undef) us.toList ∧ us.toList[off]? = some (.slice q.a q.len q.cap) ∧ BoxRel A' B' w noMu (.rows e l) q := by
  rcases hk with ⟨b, q, cs0, rfl, hb, hq, hio⟩ | ⟨b, q, σ2, l0, rfl, hb, hq, hio⟩ | ⟨off', cs0, b, q, σ', l0, ho', rfl, hcs, hfree, hb, hq, hio⟩
  · cases τ with
    | some τ => cases τ <;> simp [handed, typed, typed1, rowsOf] at he
    | none =>
      simp only [handed, handP, hb] at he
      split at he <;> cases he
  · cases τ with
    | none => simp [handed, handP, idFree] at he
    | some τ =>
      simp only [handed] at he
      split at he
      · rename_i x hx
        cases he
        cases σ with
        | pr _ _ => simp [typed, typed1] at hx
        | q => simp [typed, typed1] at hx
        | _ => cases hσ
      · cases he
  · rw [ho] at ho'; cases ho'
    rcases handed_agg he with h' | ⟨ρ, x, h', _, hx⟩
    · cases h'
    cases h'
    simp only [R] at hr
    obtain ⟨us, rfl, hr⟩ := hr
    have hw : off < σ.width := by
      have := (List.getElem?_eq_some_iff.1 (rowAt_some hl)).1
      rwa [leafs_width] at this
    obtain ⟨_, _, hg⟩ := asm_get m σ hx
    obtain ⟨ρ, z, hz, hz1⟩ := hg off hw _ hcs
    rw [rowAt_some hl] at hz
    cases hz
    simp only [typed1, rowsOf, hb] at hz1
    obtain ⟨e1, rfl⟩ := castD_some hz1
    cases e1
    obtain ⟨x0, hx0, hset⟩ := asm_set m σ hx (rowAt_some hl)
    obtain ⟨cv, hcv, hrc⟩ := RL.get hr hcs
    simp only [R] at hrc
    obtain ⟨o', e1, a0, n0, c0, rfl, e3⟩ := hrc
    rw [hq] at e1; cases e1
    obtain ⟨rfl, rfl, rfl⟩ := e3 q rfl
    obtain ⟨q', e4, k⟩ := h.box b _ hb
    rw [hq] at e4; cases e4
    obtain ⟨k1, k2, k3, k4, k5⟩ := k
    refine ⟨q, us, hio, rfl, ?_, hcv, k1, k2, k3, k4, fun ad ea => ⟨(k5 ad ea).1, (k5 ad ea).2.1.mono hF (keep_refl _ _) (fun _ _ e => e), (k5 ad ea).2.2⟩⟩
    have hr0 : RL F B w μ (cs0.set off .nil) (us.toList.set off (.slice none 0 0)) := RL.put hr (by simp only [R])
    have harr : (cs0.set off .nil).flatMap arrs1 = [] := by
      rw [List.flatMap_eq_nil_iff]
      rw [List.all_eq_true] at hfree
      intro c hc
      have := hfree c hc
      cases c <;> simp [idFree] at this <;> rfl
    obtain ⟨v1, v2, f1, f2, f3, _⟩ := asm_ok h hF σ hr0 (by rw [harr]; exact fun b hb => (nomatch hb)) hx0
    have : v2 = [] := by cases v2 with
      | nil => rfl
      | cons _ _ => simp [RL] at f3
    subst this
    rw [List.append_nil] at f1; subst f1
    have k := leafs_ok (B := B') (μ := noMu) σ f2
    rw [hset .undef]
    have := RL.put (i := off) k (v := .undef) (cv := .slice q.a q.len q.cap) (by simp only [R])
    rwa [List.set_set, set_same hcv] at this

theorem handAll_cons (m : Hp) (v : V) (l : List V) (ts : List Nat) : ∃ τ ts', handAll E m (v :: l) ts = handed m τ v :: handAll E m l ts' := by
  cases ts with
  | nil => exact ⟨none, [], rfl⟩
  | cons t ts => exact ⟨_, ts, rfl⟩
end
end Go.E

set_option linter.unusedVariables false
namespace Go.E
open Go Go.RowKit

section
variable {P : Program} {E : Env} {G : List (Nat × List V)} {w0 : World} {Ob A B F F' F2 A' B' X : Nat → Prop} {μ μ' μr μ2 : Mu} {m : Hp} {w w' : World} {base : Nat} {s : St} {a : Act} {v : V} {m' : Hp}

theorem RC_noSl : ∀ {τ : Ty} {x : D τ} {cs : List Value}, τ.hasSl = false → RC F w τ x cs → RC F' w τ x cs := by
  intro τ
  induction τ with
  | int k => intro x cs _ h; exact h
  | bool => intro x cs _ h; exact h
  | str => intro x cs _ h; exact h
  | err => intro x cs _ h; exact h
  | unit => intro x cs _ h; exact h
  | pr a b iha ihb =>
    intro x cs hs h
    simp only [Ty.hasSl, Bool.or_eq_false_iff] at hs
    simp only [RC] at h ⊢; obtain ⟨c, d, e, h1, h2⟩ := h; exact ⟨c, d, e, iha hs.1 h1, ihb hs.2 h2⟩
  | sl e ih => intro x cs hs h; simp [Ty.hasSl] at hs
  | q => intro x cs hs h; simp [Ty.hasSl] at hs

theorem slOf_hasSl {τ : Ty} {x : D τ} (h : slOf τ x = true) : τ.hasSl = true := by
  cases τ <;> first | rfl | exact h

theorem RC_noSl' {τ : Ty} {x : D τ} {cs : List Value} (hτ : slOf τ x = false) (h : RC F w τ x cs) : RC F' w τ x cs := by
  cases τ with
  | sl e =>
    have hx : ∀ l : List (D e), slOf (.sl e) l = false → l = [] := fun l h => by
      cases l with
      | nil => rfl
      | cons y r => cases h
    have hx := hx x hτ
    subst hx
    simp only [RC] at h ⊢
    obtain ⟨a, cap, h1, h2, h3, h4⟩ := h
    exact ⟨a, cap, h1, h2, h3, fun ad _ hc => absurd hc (Nat.lt_irrefl 0)⟩
  | q => cases hτ
  | pr a b => exact RC_noSl hτ h
  | int k => exact h
  | bool => exact h
  | str => exact h
  | err => exact h
  | unit => exact h

/-- What the callee's values say, they say to the caller. -/
def Conv (hs : Bool) (F' F2 : Nat → Prop) (w : World) : Prop := ∀ (τ : Ty) (x : D τ) cs, (slOf τ x = true → hs = true) → RC F' w τ x cs → RC F2 w τ x cs

theorem conv_mk {hs : Bool} (h : hs = true → ∀ b, F' b → F2 b) : Conv hs F' F2 w := fun τ x cs ht hr => by
  cases hτ : slOf τ x with
  | true => exact hr.mono (h (ht hτ)) (keep_refl _ _)
  | false => exact RC_noSl' hτ hr

theorem conv_free {hs : Bool} (C : Conv hs F' F2 w) {v : V} {cv : Value} (hv : idFree v = true) (hh : hasSl1 v = true → hs = true) (h : R F' B' w μr v cv) : R F2 B w μ2 v cv := by
  cases v <;> simp [idFree] at hv
  · rename_i τ x
    simp only [R] at h ⊢
    cases hτ : τ.agg with
    | true => rw [hτ] at h; obtain ⟨cs, e, k⟩ := h; exact ⟨cs, e, C _ _ _ hh k⟩
    | false => rw [hτ] at h; exact C _ _ _ hh h
  · simp only [R] at h ⊢; exact h
  · simp only [R] at h ⊢; exact h

theorem conv_freeL {hs : Bool} (C : Conv hs F' F2 w) : ∀ {cs : List V} {vs : List Value}, cs.all idFree = true → (cs.any hasSl1 = true → hs = true) → RL F' B' w μr cs vs → RL F2 B w μ2 cs vs
  | [], [], _, _, _ => by simp only [RL]
  | a :: x, b :: y, hc, hh, h => by
    simp only [List.all_cons, Bool.and_eq_true] at hc
    simp only [List.any_cons, Bool.or_eq_true] at hh
    simp only [RL] at h ⊢
    exact ⟨conv_free C hc.1 (fun e => hh (.inl e)) h.1, conv_freeL C hc.2 (fun e => hh (.inr e)) h.2⟩
  | [], _ :: _, _, _, h => by simp only [RL] at h
  | _ :: _, [], _, _, h => by simp only [RL] at h

theorem conv_box {hs : Bool} (C : Conv hs F' F2 w) {x : Bx} {q : MB} (hx : okBx x = true) (hh : hasSlB x = true → hs = true) (h : BoxRel F' B' w noMu x q) : BoxRel F2 B w μ2 x q := by
  cases x with
  | cs cs =>
    simp only [okBx] at hx
    obtain ⟨ad, vs, k1, k2, k3, k4, k5⟩ := h
    exact ⟨ad, vs, k1, k2, conv_freeL C hx hh k3, k4, k5⟩
  | rows τ l =>
    obtain ⟨k1, k2, k3, k4, k5⟩ := h
    exact ⟨k1, k2, k3, k4, fun ad e => ⟨(k5 ad e).1, fun i x hi => by
      obtain ⟨c, j1, j2⟩ := (k5 ad e).2.1 i x hi
      exact ⟨c, C _ _ _ (fun e => hh (slOf_hasSl e)) j1, j2⟩, (k5 ad e).2.2⟩⟩
  | fz τ l => simp [okBx] at hx

theorem conv_1 {hs : Bool} (C : Conv hs F' F2 w) (hμ : ∀ i o, μr i = some o → μ2 (base + i) = some o) {v : V} {cv : Value} (hv : simpleV v = true) (hh : hasSl1 v = true → hs = true) (h : R F' B' w μr v cv) :
    R F2 B w μ2 (shift1 base v) cv := by
  cases v <;> simp [simpleV, idFree] at hv
  · simp only [shift1, R]
  · exact conv_free C rfl hh h
  · exact conv_free C rfl hh h
  · exact conv_free C rfl hh h
  · simp only [shift1, R] at h ⊢
    obtain ⟨o, e, k⟩ := h
    exact ⟨o, hμ _ _ e, k⟩
  · simp only [shift1, R] at h ⊢
    obtain ⟨o, e, k⟩ := h
    exact ⟨o, hμ _ _ e, k⟩

theorem conv_L {hs : Bool} (C : Conv hs F' F2 w) (hμ : ∀ i o, μr i = some o → μ2 (base + i) = some o) : ∀ {cs : List V} {vs : List Value}, cs.all simpleV = true → (cs.any hasSl1 = true → hs = true) →
    RL F' B' w μr cs vs → RL F2 B w μ2 (cs.map (shift1 base)) vs
  | [], [], _, _, _ => by simp only [List.map_nil, RL]
  | a :: x, b :: y, hc, hh, h => by
    simp only [List.all_cons, Bool.and_eq_true] at hc
    simp only [List.any_cons, Bool.or_eq_true] at hh
    simp only [List.map_cons, RL] at h ⊢
    exact ⟨conv_1 C hμ hc.1 (fun e => hh (.inl e)) h.1, conv_L C hμ hc.2 (fun e => hh (.inr e)) h.2⟩
  | [], _ :: _, _, _, h => by simp only [RL] at h
  | _ :: _, [], _, _, h => by simp only [RL] at h

def shift2 (base : Nat) (v : V) : V := match v with | .agg ds => .agg (ds.map (shift1 base)) | v => shift1 base v
def simple2 (v : V) : Bool := match v with | .agg ds => ds.all simpleV | v => simpleV v
def hasSl2 (v : V) : Bool := match v with | .agg ds => ds.any hasSl1 | v => hasSl1 v

theorem conv_2 {hs : Bool} (C : Conv hs F' F2 w) (hμ : ∀ i o, μr i = some o → μ2 (base + i) = some o) {v : V} {cv : Value} (hv : simple2 v = true) (hh : hasSl2 v = true → hs = true) (h : R F' B' w μr v cv) :
    R F2 B w μ2 (shift2 base v) cv := by
  by_cases ha : ∃ ds, v = .agg ds
  · obtain ⟨ds, rfl⟩ := ha
    simp only [shift2, R] at h ⊢
    obtain ⟨vs, e, k⟩ := h
    exact ⟨vs, e, conv_L C hμ hv hh k⟩
  · have e1 : shift2 base v = shift1 base v := by cases v <;> first | rfl | exact absurd ⟨_, rfl⟩ ha
    have e2 : simple2 v = simpleV v := by cases v <;> first | rfl | exact absurd ⟨_, rfl⟩ ha
    have e3 : hasSl2 v = hasSl1 v := by cases v <;> first | rfl | exact absurd ⟨_, rfl⟩ ha
    rw [e1]; exact conv_1 C hμ (e2 ▸ hv) (e3 ▸ hh) h

theorem conv_L2 {hs : Bool} (C : Conv hs F' F2 w) (hμ : ∀ i o, μr i = some o → μ2 (base + i) = some o) : ∀ {cs : List V} {vs : List Value}, cs.all simple2 = true → (cs.any hasSl2 = true → hs = true) →
    RL F' B' w μr cs vs → RL F2 B w μ2 (cs.map (shift2 base)) vs
  | [], [], _, _, _ => by simp only [List.map_nil, RL]
  | a :: x, b :: y, hc, hh, h => by
    simp only [List.all_cons, Bool.and_eq_true] at hc
    simp only [List.any_cons, Bool.or_eq_true] at hh
    simp only [List.map_cons, RL] at h ⊢
    exact ⟨conv_2 C hμ hc.1 (fun e => hh (.inl e)) h.1, conv_L2 C hμ hc.2 (fun e => hh (.inr e)) h.2⟩
  | [], _ :: _, _, _, h => by simp only [RL] at h
  | _ :: _, [], _, _, h => by simp only [RL] at h

theorem conv_V {hs : Bool} (C : Conv hs F' F2 w) (hμ : ∀ i o, μr i = some o → μ2 (base + i) = some o) {v : V} {cv : Value} (hv : okRes v = true) (hh : hasSl v = true → hs = true) (h : R F' B' w μr v cv) :
    R F2 B w μ2 (shiftV base v) cv := by
  by_cases ha : ∃ ds, v = .tup ds
  · obtain ⟨ds, rfl⟩ := ha
    simp only [R] at h
    obtain ⟨vs, e, k⟩ := h
    have : R F2 B w μ2 (.tup (ds.map (shift2 base))) cv := by
      simp only [R]; exact ⟨vs, e, conv_L2 C hμ hv hh k⟩
    exact this
  · have e1 : shiftV base v = shift2 base v := by cases v <;> first | rfl | exact absurd ⟨_, rfl⟩ ha
    have e2 : okRes v = simple2 v := by cases v <;> first | rfl | exact absurd ⟨_, rfl⟩ ha
    have e3 : hasSl v = hasSl2 v := by cases v <;> first | rfl | exact absurd ⟨_, rfl⟩ ha
    rw [e1]; exact conv_2 C hμ (e2 ▸ hv) (e3 ▸ hh) h

/-! Freezing what is handed. -/

theorem frzBut_ok (K : Nat → Bool) : ∀ (l : List (V × Nat)) {F : Nat → Prop} {m : Hp}, Mem G w0 Ob A B F μ m w →
    ∃ F', Mem G w0 Ob A B F' μ (l.foldl (fun m q => if K q.2 = true then m else frz m q.1) m) w ∧ Tr B F F' μ μ w w ∧
      ∀ q ∈ l, K q.2 = false → In F' μ m (arrs q.1)
  | [], F, m, h => ⟨F, h, Tr.refl _ _ _ _, by simp⟩
  | (v, i) :: r, F, m, h => by
    simp only [List.foldl_cons]
    cases hK : K i with
    | true =>
      obtain ⟨F1, h1, t1, k1⟩ := frzBut_ok K r h
      refine ⟨F1, by simpa using h1, t1, fun q hq hk => ?_⟩
      rcases List.mem_cons.1 hq with rfl | hq
      · rw [hK] at hk; cases hk
      · exact k1 q hq hk
    | false =>
      obtain ⟨F1, h1, t1⟩ := h.frz v
      obtain ⟨F2, h2, t2, k2⟩ := frzBut_ok K r h1
      refine ⟨F2, by simpa using h2, t1.trans t2, fun q hq hk => ?_⟩
      have fz : ∀ b ∈ arrs v, ∀ τ l qq ad, m.at b = some (.rows τ l) → μ b = some (some qq) → qq.a = some ad → F2 ad.block := fun b hb τ l qq ad hm hμ ha => by
        have e : (frz m v).at b = some (.fz τ l) := by rw [frz_at, if_pos hb, hm]; rfl
        obtain ⟨q', e', k⟩ := h1.box b _ e
        rw [hμ] at e'; cases e'
        exact t2.sub _ (k.2.2.2.2 ad ha).2.1
      rcases List.mem_cons.1 hq with rfl | hq
      · exact fz
      · intro b hb τ l qq ad hm hμ ha
        by_cases hbv : b ∈ arrs v
        · exact fz b hbv τ l qq ad hm hμ ha
        · exact k2 q hq hk b hb τ l qq ad (by rw [frz_at, if_neg hbv]; exact hm) hμ ha

theorem frzBut_at (K : Nat → Bool) (c : Nat) : ∀ (l : List (V × Nat)) (m : Hp), (∀ q ∈ l, K q.2 = false → c ∉ arrs q.1) → (l.foldl (fun m q => if K q.2 = true then m else frz m q.1) m).at c = m.at c
  | [], m, _ => rfl
  | (v, i) :: r, m, h => by
    simp only [List.foldl_cons]
    rw [frzBut_at K c r _ (fun q hq => h q (List.mem_cons_of_mem _ hq))]
    cases hK : K i with
    | true => simp
    | false => simp [frz_at, h (v, i) (by simp) hK]

theorem ment_self_arr (m : Hp) (b k : Nat) : ment m b (k + 1) (.arr b) = true := by simp [ment]
theorem ment_self_ptr (m : Hp) (b k o : Nat) : ment m b (k + 1) (.ptr b o) = true := by simp [ment]
theorem ment_arr {b : Nat} {v : V} (h : ment m b 5 v = false) : b ∉ arrs v := by
  cases v with
  | arr c =>
    simp only [arrs, arrs1, List.mem_singleton]
    rintro rfl
    rw [ment_self_arr m b 4] at h; cases h
  | agg cs =>
    simp only [ment, List.any_eq_false] at h
    simp only [arrs, List.mem_flatMap, not_exists, not_and]
    intro x hx hb
    have := h x hx
    cases x <;> simp [arrs1] at hb
    subst hb; exact this (ment_self_arr m _ 3)
  | tup cs =>
    simp only [ment, List.any_eq_false] at h
    simp only [arrs, List.mem_flatMap, not_exists, not_and]
    intro x hx hb
    have := h x hx
    cases x <;> simp [arrs1] at hb
    subst hb; exact this (ment_self_arr m _ 3)
  | _ => simp [arrs, arrs1]

theorem ment_ptr {b : Nat} {v : V} (h : ment m b 5 v = false) : b ∉ ptrs v := by
  cases v with
  | ptr c off =>
    cases off with
    | succ n => simp [ptrs]
    | zero =>
      simp only [ptrs, List.mem_singleton]
      rintro rfl
      rw [ment_self_ptr m b 4] at h; cases h
  | fn f cs =>
    simp only [ment, List.any_eq_false] at h
    simp only [ptrs, List.mem_filterMap, not_exists, not_and]
    intro x hx hb
    have := h x hx
    cases x <;> (first | (cases hb; done) | skip)
    rename_i c off
    cases off with
    | succ n => cases hb
    | zero => cases hb; exact this (ment_self_ptr m _ 3 0)
  | _ => simp [ptrs]
end
end Go.E

set_option linter.unusedVariables false
namespace Go.E
open Go Go.RowKit

structure EnvC (P : Program) (E : Env) : Prop where
  ok : EnvOk P E
  ctr : ∀ g c, look E.C g = some c → SatC P E.G g c
  glb : ∀ g cs, look E.G g = some cs → cs.all idFree = true

section
variable {P : Program} {E : Env} {G : List (Nat × List V)} {w0 : World} {Ob A B F F' F2 A' B' X : Nat → Prop} {μ μ' μr μ2 : Mu} {m : Hp} {w w' : World} {base : Nat} {s : St} {a : Act} {v : V} {m' : Hp}

theorem OutsR.mem {offs : List (Nat × Nat)} {args : List V} {m : Hp} : ∀ (outs : List (Nat × Bx)) (ids : List Nat), OutsR offs args m outs ids → ∀ i x, (i, x) ∈ outs → ∃ b ∈ ids, KindOk offs args i x b (m.at b)
  | [], [], _, i, x, h => by simp at h
  | (j, y) :: r, b :: bs, k, i, x, h => by
    rcases List.mem_cons.1 h with e | h
    · cases e; exact ⟨b, by simp, k.1⟩
    · obtain ⟨c, hc, k2⟩ := OutsR.mem r bs k.2 i x h
      exact ⟨c, List.mem_cons_of_mem _ hc, k2⟩
  | [], _ :: _, k, _, _, _ => k.elim
  | _ :: _, [], k, _, _, _ => k.elim

theorem outAt_mem {offs : List (Nat × Nat)} {args : List V} {m : Hp} {o : Option Bx} : ∀ (outs : List (Nat × Bx)) (ids : List Nat), OutsR offs args m outs ids → ∀ c, c ∈ ids → ∃ i x, (i, x) ∈ outs ∧ KindOk offs args i x c (m.at c) ∧ outAt outs ids c o = some x
  | [], [], _, c, h => by simp at h
  | (j, y) :: r, b :: bs, k, c, h => by
    by_cases e : c = b
    · subst e; exact ⟨j, y, by simp, k.1, by simp [outAt]⟩
    · rcases List.mem_cons.1 h with h | h
      · exact absurd h e
      · obtain ⟨i, x, h1, h2, h3⟩ := outAt_mem r bs k.2 c h
        exact ⟨i, x, List.mem_cons_of_mem _ h1, h2, by rw [outAt, if_neg e]; exact h3⟩
  | [], _ :: _, k, _, _ => k.elim
  | _ :: _, [], k, _, _ => k.elim

theorem hasKey_iff {α : Type} {l : List (Nat × α)} {i : Nat} : hasKey l i = true ↔ ∃ x, (i, x) ∈ l := by
  unfold hasKey
  rw [List.any_eq_true]
  constructor
  · rintro ⟨⟨j, x⟩, h, e⟩; simp at e; subst e; exact ⟨x, h⟩
  · rintro ⟨x, h⟩; exact ⟨(i, x), h, by simp⟩

theorem apart_spec {offs : List (Nat × Nat)} {outs : List (Nat × Bx)} {args : List V} (h : apartOk m offs outs args = true) {i : Nat} {x : Bx} (hi : (i, x) ∈ outs) :
    ∃ b v, args[i]? = some v ∧ idAt offs i v = some b ∧ ∀ j u, args[j]? = some u → j ≠ i → ment m b 5 u = false := by
  unfold apartOk at h
  rw [List.all_eq_true] at h
  have h := h _ hi
  simp only at h
  split at h
  · rename_i b hb
    cases ha : args[i]? with
    | none => rw [ha] at hb; cases hb
    | some v =>
      rw [ha] at hb
      refine ⟨b, v, rfl, hb, fun j u hj hne => ?_⟩
      rw [List.all_eq_true] at h
      have := h (u, j) (by rw [List.mem_zipIdx_iff_getElem?]; exact hj)
      simp only [Bool.or_eq_true, beq_iff_eq, Bool.not_eq_true'] at this
      rcases this with this | this
      · exact absurd this hne
      · exact this
  · cases h

theorem KindOk.id {offs : List (Nat × Nat)} {args : List V} {i : Nat} {x : Bx} {b : Nat} {o : Option Bx} (h : KindOk offs args i x b o) : ∃ v, args[i]? = some v ∧ idAt offs i v = some b ∧ ∀ m, ment m b 5 v = true := by
  rcases h with ⟨h0, h, _⟩ | ⟨h0, h, _⟩ | ⟨off, cs, h0, h, hc, _⟩
  · exact ⟨_, h, by unfold idAt; rw [h0]; rfl, fun m => ment_self_ptr m b 4 0⟩
  · exact ⟨_, h, by unfold idAt; rw [h0]; rfl, fun m => ment_self_arr m b 4⟩
  · refine ⟨_, h, by unfold idAt; rw [h0]; simp [hc, idArr], fun m => ?_⟩
    rw [ment, List.any_eq_true]
    exact ⟨_, List.mem_of_getElem? hc, ment_self_arr m b 3⟩

theorem KindOk.box {offs : List (Nat × Nat)} {args : List V} {i : Nat} {x : Bx} {b : Nat} {o : Option Bx} (h : KindOk offs args i x b o) : ∃ y, o = some y ∧ y.isFz = false := by
  rcases h with ⟨_, _, cs, ds, h, _⟩ | ⟨_, _, σ, l, l', h, _⟩ | ⟨_, _, _, _, _, _, σ, l, l', h, _⟩
  · exact ⟨_, h, rfl⟩
  · exact ⟨_, h, rfl⟩
  · exact ⟨_, h, rfl⟩

/-- The memory of what is handed in place. -/
def ioM (offs : List (Nat × Nat)) (outs : List (Nat × Bx)) (args : List V) (μ : Mu) (j : Nat) : Option MB :=
  if hasKey outs j = true then ((args[j]?).bind (idAt offs j)).bind fun b => (μ b).join else none

theorem argR_ok (h : Mem G w0 Ob A B F μ m w) (hF : ∀ b, F b → A' b) (hB : ∀ b, B b → B' b) {io : Nat → Option MB} {offs : List (Nat × Nat)} {outs : List (Nat × Bx)} :
    ∀ (l : List V) (k : Nat) (ts : List Nat) (avs : List AV) (vs : List Value), Match offs (outs.map (·.1)) k (handAll E m l ts) avs → RL F B w μ l vs →
      (∀ j v, l[j]? = some v → (hasKey outs (k + j) = false → In A' μ m (arrs v) ∧ InP B' μ m (ptrs v)) ∧ (hasKey outs (k + j) = true → KeyOk offs m μ io (k + j) v)) → ArgR A' B' w io k avs vs
  | [], k, ts, [], [], _, _, _ => trivial
  | [], k, ts, [], _ :: _, _, hr, _ => by simp only [RL] at hr
  | [], k, ts, _ :: _, _, hm, _, _ => by simp [handAll, Match] at hm
  | v :: l, k, ts, avs, [], _, hr, _ => by simp only [RL] at hr
  | v :: l, k, ts, [], _ :: _, hm, _, _ => by obtain ⟨τ, ts', e⟩ := handAll_cons (E := E) m v l ts; rw [e] at hm; simp [Match] at hm
  | v :: l, k, ts, av :: avs, cv :: vs, hm, hr, hp => by
    obtain ⟨τ, ts', e⟩ := handAll_cons (E := E) m v l ts
    rw [e] at hm
    simp only [RL] at hr
    simp only [Match] at hm
    simp only [ArgR]
    have key : k ∈ outs.map (·.1) ↔ hasKey outs k = true := by
      rw [hasKey_iff, List.mem_map]
      exact ⟨fun ⟨⟨i, x⟩, h1, h2⟩ => ⟨x, by simp at h2; subst h2; exact h1⟩, fun ⟨x, h⟩ => ⟨(k, x), h, rfl⟩⟩
    have h0 := hp 0 v (by simp)
    simp only [Nat.add_zero] at h0
    refine ⟨?_, argR_ok h hF hB l (k + 1) ts' avs vs hm.2 hr.2 (fun j u hj => by have := hp (j + 1) u (by simpa using hj); rw [show k + (j + 1) = k + 1 + j by omega] at this; exact this)⟩
    cases av with
    | fr y =>
      simp only at hm ⊢
      obtain ⟨⟨rfl, hk⟩, _⟩ := hm
      have hk' : hasKey outs k = false := by
        cases hh : hasKey outs k with
        | false => rfl
        | true => exact absurd (key.2 hh) hk
      exact handed_ok h hF hB hr.1 (h0.1 hk').1 (h0.1 hk').2 τ
    | st cs =>
      simp only at hm ⊢
      obtain ⟨⟨he, hk⟩, _⟩ := hm
      exact key_st h hF (h0.2 (key.1 hk)) hr.1 he
    | io σ l' =>
      simp only at hm ⊢
      obtain ⟨⟨he, hk⟩, _⟩ := hm
      exact key_io h hF (h0.2 (key.1 hk)) hr.1 he
    | mx cs off σ l' =>
      simp only at hm ⊢
      obtain ⟨⟨⟨ρ, y, he, hρ, rfl, hl⟩, hk, ho⟩, _⟩ := hm
      exact key_mx h hF (h0.2 (key.1 hk)) hr.1 he hρ ho hl
end
end Go.E

set_option linter.unusedVariables false
namespace Go.E
open Go Go.RowKit

section
variable {P : Program} {E : Env} {w0 : World} {Ob A B F : Nat → Prop} {μ : Mu} {m : Hp} {w : World} {base : Nat} {s : St} {a : Act} {v : V} {m' : Hp}

theorem Does.mono {g : Nat} {vs : Array Value} {K K' : Value → World → Prop} (h : Does P g vs w K) (hk : ∀ v w', K v w' → K' v w') : Does P g vs w K' := by
  rcases h with ⟨h1, h2⟩ | ⟨v, w', h1, h2⟩
  · exact .inl ⟨h1, h2.mono fun e w' ⟨v, e1, e2⟩ => ⟨v, e1, hk _ _ e2⟩⟩
  · exact .inr ⟨v, w', h1, hk _ _ h2⟩

set_option maxHeartbeats 1000000 in
theorem call_ok (hE : EnvC P E) (hM : Mem E.G w0 Ob A B F μ m w) (hfr : Fresh μ base) {f : Nat} {tys : List Nat} {args : List V} {vs : Array Value} (hr : RL F B w μ args vs.toList)
    (hf : callK E f tys args base m (fun v m => some (v, m)) = some (v, m')) : Does P f vs w fun cv w' => ∃ F' μ', Step1 E.G w0 Ob A B F μ w base F' μ' m' w' ∧ R F' B w' μ' v cv := by
  unfold callK at hf
  split at hf
  case h_2 => cases hf
  rename_i c hc
  obtain ⟨avs, res, hmatch, hsat, hK⟩ := hE.ctr f c hc _ _ _ _ hf
  clear hf
  split at hK
  case isFalse => cases hK
  rename_i hok
  obtain ⟨hap, hok⟩ := hok
  split at hK
  case h_2 => cases hK
  rename_i m2 hout
  simp only [Option.some.injEq, Prod.mk.injEq] at hK
  obtain ⟨rfl, rfl⟩ := hK
  obtain ⟨outs, houts⟩ : ∃ o, o = res.outs := ⟨_, rfl⟩
  obtain ⟨offs, hoffs⟩ : ∃ o, o = res.offs := ⟨_, rfl⟩
  rw [← houts, ← hoffs] at hap hout hmatch
  -- the memory, frozen
  obtain ⟨m1, hm1⟩ : ∃ m1, m1 = (if res.hasSl = true then frzBut outs args m else m) := ⟨_, rfl⟩
  rw [← hm1] at hout
  have S1 : ∃ F1, Mem E.G w0 Ob A B F1 μ m1 w ∧ Tr B F F1 μ μ w w ∧ (res.hasSl = true → ∀ j v, args[j]? = some v → hasKey outs j = false → In F1 μ m (arrs v)) := by
    by_cases hs : res.hasSl = true
    · rw [if_pos hs] at hm1
      obtain ⟨F1, k1, k2, k3⟩ := frzBut_ok (hasKey outs) args.zipIdx hM
      exact ⟨F1, by rw [hm1]; exact k1, k2, fun _ j v hj hk => k3 (v, j) (by rw [List.mem_zipIdx_iff_getElem?]; exact hj) hk⟩
    · rw [if_neg hs] at hm1
      exact ⟨F, by rw [hm1]; exact hM, Tr.refl _ _ _ _, fun e => absurd e hs⟩
  obtain ⟨F1, M1, T1, hIn1⟩ := S1
  obtain ⟨ids, n1, _, n3, n4⟩ := outsH_ok outs [] m1 m2 hout
  have hment : ∀ b ∈ ids, ∃ i x, (i, x) ∈ outs ∧ KindOk offs args i x b (m1.at b) ∧ ∀ j u, args[j]? = some u → j ≠ i → ment m b 5 u = false := fun b hb => by
    obtain ⟨i, x, h1, h2, _⟩ := outAt_mem (o := none) outs ids n3 b hb
    obtain ⟨b', v', h3, h4, h5⟩ := apart_spec hap h1
    obtain ⟨v'', h6, h7, _⟩ := h2.id
    rw [h6] at h3; cases h3
    rw [h7] at h4; cases h4
    exact ⟨i, x, h1, h2, h5⟩
  have hm1at : ∀ b ∈ ids, m1.at b = m.at b := fun b hb => by
    rw [hm1]; split
    · obtain ⟨i, x, h1, h2, h5⟩ := hment b hb
      refine frzBut_at (hasKey outs) b _ _ (fun q hq hk => ment_arr (h5 q.2 q.1 (List.mem_zipIdx_iff_getElem?.1 hq) (fun e => ?_)))
      rw [e, hasKey_iff.2 ⟨x, h1⟩] at hk; cases hk
    · rfl
  have ioid : ∀ j q, ioM offs outs args μ j = some q → ∃ x b y, (j, x) ∈ outs ∧ b ∈ ids ∧ KindOk offs args j x b (m1.at b) ∧ m1.at b = some y ∧ y.isFz = false ∧ μ b = some (some q) := fun j q hq => by
    unfold ioM at hq
    split at hq
    case isFalse => cases hq
    rename_i hk
    obtain ⟨x, hx⟩ := hasKey_iff.1 hk
    obtain ⟨b, hb, hkind⟩ := n3.mem outs ids j x hx
    obtain ⟨v', h1, h2, _⟩ := hkind.id
    obtain ⟨y, hy, hyz⟩ := hkind.box
    rw [h1] at hq; simp only [Option.bind_some, h2] at hq
    refine ⟨x, b, y, hx, hb, hkind, hy, hyz, ?_⟩
    cases hμ : μ b with
    | none => rw [hμ] at hq; cases hq
    | some o => rw [hμ] at hq; simp at hq; rw [hq]
  have iok : ∀ j x b, (j, x) ∈ outs → KindOk offs args j x b (m1.at b) → ∀ q, μ b = some (some q) → ioM offs outs args μ j = some q := fun j x b hx hkind q hq => by
    obtain ⟨v', h1, h2, _⟩ := hkind.id
    unfold ioM
    rw [if_pos (hasKey_iff.2 ⟨x, hx⟩), h1]; simp [h2, hq]
  obtain ⟨io, hio⟩ : ∃ io, io = ioM offs outs args μ := ⟨_, rfl⟩
  rw [← hio] at ioid iok
  -- what the callee sees
  let X : Nat → Prop := fun b => ∃ j v, args[j]? = some v ∧ hasKey outs j = false ∧ ∃ id ∈ arrs v, ∃ τ r q ad, m.at id = some (.rows τ r) ∧ μ id = some (some q) ∧ q.a = some ad ∧ b = ad.block
  let Y : Nat → Prop := fun b => ∃ j v, args[j]? = some v ∧ hasKey outs j = false ∧ ∃ id ∈ ptrs v, ∃ cs q ad, m.at id = some (.cs cs) ∧ μ id = some (some q) ∧ q.a = some ad ∧ b = ad.block
  let A' : Nat → Prop := fun b => F b ∨ X b
  let B' : Nat → Prop := fun b => B b ∨ Y b
  have hF : ∀ b, F b → A' b := fun b => .inl
  have hB : ∀ b, B b → B' b := fun b => .inl
  have hIO : ∀ b, IOb io b → ∃ j id q y ad, io j = some q ∧ id ∈ ids ∧ m1.at id = some y ∧ y.isFz = false ∧ μ id = some (some q) ∧ q.a = some ad ∧ b = ad.block ∧ ∀ j' u, args[j']? = some u → hasKey outs j' = false → ment m id 5 u = false := by
    rintro b ⟨j, q, ad, h1, h2, h3⟩
    obtain ⟨x, id, y, k1, k2, k3, k4, k5, k6⟩ := ioid j q h1
    refine ⟨j, id, q, y, ad, h1, k2, k4, k5, k6, h2, h3, fun j' u hu hk => ?_⟩
    obtain ⟨i, x', e1, e2, e3⟩ := hment id k2
    exact e3 j' u hu (fun e => by rw [e, hasKey_iff.2 ⟨x', e1⟩] at hk; cases hk)
  have A'lt : ∀ b, A' b → b < w.heap.size := by
    rintro b (h | ⟨j, v, h1, h2, id, h3, τ, r, q, ad, h4, h5, h6, rfl⟩)
    · exact (hM.fz b h).1
    · exact (hM.own id _ q ad h4 rfl h5 h6).2.2.1
  have B'lt : ∀ b, B' b → b < w.heap.size := by
    rintro b (h | ⟨j, v, h1, h2, id, h3, cs, q, ad, h4, h5, h6, rfl⟩)
    · exact hM.block_lt h
    · exact (hM.own id _ q ad h4 rfl h5 h6).2.2.1
  have hIoOk : IoOk A' B' w io := by
    constructor
    · intro b hb
      obtain ⟨j, id, q, y, ad, h1, h2, h3, h4, h5, h6, rfl, h8⟩ := hIO b hb
      have h3' : m.at id = some y := by rw [← hm1at id h2]; exact h3
      obtain ⟨o1, o2, o3, o4⟩ := hM.own id y q ad h3' h4 h5 h6
      refine ⟨?_, ?_, o3⟩
      · rintro (h | ⟨j', v', e1, e2, id', e3, τ, r, q', ad', e4, e5, e6, e7⟩)
        · exact o1 h
        · have := hM.inj id id' y _ q q' ad ad' h3' e4 h4 rfl h5 e5 h6 e6 e7
          subst this
          exact ment_arr (h8 j' v' e1 e2) e3
      · rintro (h | ⟨j', v', e1, e2, id', e3, cs, q', ad', e4, e5, e6, e7⟩)
        · exact o2 h
        · have := hM.inj id id' y _ q q' ad ad' h3' e4 h4 rfl h5 e5 h6 e6 e7
          subst this
          exact ment_ptr (h8 j' v' e1 e2) e3
    · intro i j q q' ad ad' hi hj ha ha' hb
      obtain ⟨x, id, y, k1, k2, k3, k4, k5, k6⟩ := ioid i q hi
      obtain ⟨x', id', y', l1, l2, l3, l4, l5, l6⟩ := ioid j q' hj
      have := M1.inj id id' y y' q q' ad ad' k4 l4 k5 l5 k6 l6 ha ha' hb
      subst this
      obtain ⟨b', v', h3, h4, h5⟩ := apart_spec hap k1
      obtain ⟨u1, e1, e2, _⟩ := k3.id
      obtain ⟨u2, e3, e4, e5⟩ := l3.id
      rw [e1] at h3; cases h3; rw [e2] at h4; cases h4
      by_cases hij : i = j
      · exact hij
      · have := h5 j u2 e3 (Ne.symm hij)
        rw [e5 m] at this; cases this
  have hArg : ArgR A' B' w io 0 avs vs.toList := by
    refine argR_ok hM hF hB args 0 tys avs vs.toList hmatch hr (fun j v hj => ?_)
    rw [Nat.zero_add]
    refine ⟨fun hk => ⟨fun b hb τ r q ad h1 h2 h3 => .inr ⟨j, v, hj, hk, b, hb, τ, r, q, ad, h1, h2, h3, rfl⟩, fun b hb cs q ad h1 h2 h3 => .inr ⟨j, v, hj, hk, b, hb, cs, q, ad, h1, h2, h3, rfl⟩⟩, fun hk => ?_⟩
    obtain ⟨x, hx⟩ := hasKey_iff.1 hk
    obtain ⟨b, hb, hkind⟩ := n3.mem outs ids j x hx
    have hat := hm1at b hb
    have hkind0 := hkind
    rcases hkind with ⟨e0, e1, cs, ds, e2, e3, e4⟩ | ⟨e0, e1, σ, l, l', e2, e3⟩ | ⟨off, cs, e0, e1, e5, e6, σ, l, l', e2, e3⟩
    · rw [hj] at e1; cases e1
      obtain ⟨q, k1, _⟩ := M1.box b _ e2
      exact .inl ⟨b, q, cs, rfl, by rw [← hat]; exact e2, k1, iok j x b hx hkind0 q k1⟩
    · rw [hj] at e1; cases e1
      obtain ⟨q, k1, _⟩ := M1.box b _ e2
      exact .inr (.inl ⟨b, q, σ, l, rfl, by rw [← hat]; exact e2, k1, iok j x b hx hkind0 q k1⟩)
    · rw [hj] at e1; cases e1
      obtain ⟨q, k1, _⟩ := M1.box b _ e2
      exact .inr (.inr ⟨off, cs, b, q, σ, l, e0, rfl, e5, e6, by rw [← hat]; exact e2, k1, iok j x b hx hkind0 q k1⟩)
  have hglob : ∀ g cs, look E.G g = some cs → R A' B' w noMu (.rc cs) (.pointer (some ⟨g, 0, none⟩)) := fun g cs hg => by
    have := hM.glob g cs hg
    simp only [R] at this ⊢
    obtain ⟨ad, vs, e1, e2, e3, e4, e5⟩ := this
    exact ⟨ad, vs, e1, e2, hB _ e3, idFree_RL hF (keep_refl _ _) (hE.glb g cs hg) e4, e5⟩
  refine (hsat w A' B' io vs A'lt B'lt hglob hIoOk hArg).mono ?_
  rintro cv w' ⟨Fr, μr, rr⟩
  -- the end
  rw [Res.okRes] at hok
  simp only [Bool.and_eq_true, decide_eq_true_eq] at hok
  obtain ⟨⟨⟨okv, okbs⟩, okouts⟩, oklen⟩ := hok
  have hsz := rr.ext.size
  have hIOlt : ∀ b, IOb io b → ¬ F1 b ∧ ¬ B b ∧ b < w.heap.size ∧ (w0.heap.size ≤ b ∨ Ob b) := fun b hb => by
    obtain ⟨j, id, q, y, ad, h1, h2, h3, h4, h5, h6, rfl, h8⟩ := hIO b hb
    exact M1.own id y q ad h3 h4 h5 h6
  let F2 : Nat → Prop := fun b => F1 b ∨ (res.hasSl = true ∧ Fr b ∧ w.heap.size ≤ b)
  let μ2 : Mu := fun id => if base ≤ id ∧ id < base + 64 then μr (id - base) else μ id
  have hμ2 : ∀ i o, μr i = some o → μ2 (base + i) = some o := fun i o e => by
    have hi : i < res.bs.length := by
      rcases Nat.lt_or_ge i res.bs.length with h | h
      · exact h
      · rw [rr.dom i h] at e; cases e
    show (if _ then _ else _) = _
    rw [if_pos ⟨by omega, by omega⟩, Nat.add_sub_cancel_left]; exact e
  have hF2 : res.hasSl = true → ∀ b, Fr b → F2 b := fun hs b hb => by
    rcases rr.fz b hb with (h | ⟨j, v, h1, h2, id, h3, τ, r, q, ad, h4, h5, h6, rfl⟩) | h
    · exact .inl (T1.sub b h)
    · exact .inl (hIn1 hs j v h1 h2 id h3 τ r q ad h4 h5 h6)
    · exact .inr ⟨hs, hb, h.1⟩
  have C : Conv res.hasSl Fr F2 w' := conv_mk hF2
  have hslv : Go.E.hasSl res.v = true → res.hasSl = true := fun e => by unfold Res.hasSl; simp [e]
  have hslb : ∀ x ∈ res.bs, hasSlB x = true → res.hasSl = true := fun x hx e => by
    unfold Res.hasSl; rw [Bool.or_eq_true, Bool.or_eq_true, List.any_eq_true]; exact .inl (.inr ⟨x, hx, e⟩)
  have hslo : ∀ p ∈ outs, hasSlB p.2 = true → res.hasSl = true := fun x hx e => by
    unfold Res.hasSl; rw [Bool.or_eq_true, List.any_eq_true]; exact .inr ⟨x, houts ▸ hx, e⟩
  have keep : ∀ b, b < w.heap.size → ¬ IOb io b → ∀ off v, w.cell? ⟨b, off, none⟩ = some v → w'.cell? ⟨b, off, none⟩ = some v := fun b hb hn off v e => by
    rw [(rr.ext.same hb hn off).1]; exact e
  have T2 : Tr B F1 F2 μ μ2 w w' := by
    refine ⟨fun b hb => .inl hb, fun b off v hb e => keep b (M1.fz b hb).1 (fun h => (hIOlt b h).1 hb) off v e, fun b off v hb e => keep b (M1.block_lt hb) (fun h => (hIOlt b h).2.1 hb) off v e, fun b o e => ⟨o, ?_, .inr rfl⟩⟩
    show (if _ then _ else _) = _
    rw [if_neg, e]
    intro hb
    have := hfr (b - base) (by omega)
    rw [Nat.add_sub_cancel' hb.1] at this
    rw [this] at e; cases e
  -- alive boxes
  have alive : ∀ b x, (addBoxes base 0 res.bs m2).at b = some x →
      (∃ i, i < res.bs.length ∧ b = base + i ∧ res.bs[i]? = some x) ∨
      (¬ (base ≤ b ∧ b < base + 64) ∧ b ∈ ids ∧ ∃ i, (i, x) ∈ outs ∧ KindOk offs args i x b (m1.at b)) ∨
      (¬ (base ≤ b ∧ b < base + 64) ∧ b ∉ ids ∧ m1.at b = some x) := fun b x hx => by
    rw [addBoxes_at] at hx
    split at hx
    · rename_i hb
      exact .inl ⟨b - base, by omega, by omega, by simpa using hx⟩
    · rename_i hb
      rw [n4] at hx
      have nr : ∀ y, m1.at b = some y → ¬ (base ≤ b ∧ b < base + 64) := fun y hy hb => by
        obtain ⟨q, e, _⟩ := M1.box b y hy
        have := hfr (b - base) (by omega)
        rw [Nat.add_sub_cancel' hb.1, e] at this; cases this
      by_cases hi : b ∈ ids
      · obtain ⟨i, x', h1, h2, h3⟩ := outAt_mem (o := m1.at b) outs ids n3 b hi
        rw [h3] at hx; cases hx
        obtain ⟨y, hy, _⟩ := h2.box
        exact .inr (.inl ⟨nr y hy, hi, i, h1, h2⟩)
      · rw [outAt_not outs ids hi] at hx
        exact .inr (.inr ⟨nr x hx, hi, hx⟩)
  have μ2old : ∀ b, ¬ (base ≤ b ∧ b < base + 64) → μ2 b = μ b := fun b hb => if_neg hb
  have μ2new : ∀ i, i < res.bs.length → μ2 (base + i) = μr i := fun i hi => by
    show (if _ then _ else _) = _
    rw [if_pos ⟨by omega, by omega⟩, Nat.add_sub_cancel_left]
  -- old boxes
  have old : ∀ b x, ¬ (base ≤ b ∧ b < base + 64) → (addBoxes base 0 res.bs m2).at b = some x → x.isFz = false → ∃ y, m1.at b = some y ∧ y.isFz = false := fun b x hb hx hz => by
    rcases alive b x hx with ⟨i, h1, rfl, h2⟩ | ⟨_, _, i, h1, h2⟩ | ⟨_, _, h⟩
    · exact absurd ⟨by omega, by omega⟩ hb
    · exact h2.box
    · exact ⟨x, h, hz⟩
  have range : ∀ b x, (addBoxes base 0 res.bs m2).at b = some x → (∃ i, i < res.bs.length ∧ b = base + i) ∨ ¬ (base ≤ b ∧ b < base + 64) := fun b x hx => by
    rcases alive b x hx with ⟨i, h1, h2, _⟩ | ⟨h, _⟩ | ⟨h, _⟩
    · exact .inl ⟨i, h1, h2⟩
    · exact .inr h
    · exact .inr h
  have newOwn : ∀ i q ad, i < res.bs.length → μr i = some (some q) → q.a = some ad → ¬ Fr ad.block ∧ w.heap.size ≤ ad.block ∧ ad.block < w'.heap.size := fun i q ad hi hq ha => by
    obtain ⟨q', e1, _, e2⟩ := rr.bs i res.bs[i] (List.getElem?_eq_getElem hi)
    rw [hq] at e1; cases e1
    exact e2 ad ha
  refine ⟨F2, μ2, ⟨⟨?_, ?_, ?_, ?_, ?_, M1.bz, fun g cs hg => T2.R (M1.glob g cs hg)⟩, T1.trans T2, fun id hid hn => by rw [μ2old id hid]; exact hn⟩, conv_V C hμ2 okv hslv rr.val⟩
  · -- ext
    refine ⟨rr.ext.os.trans M1.ext.os, rr.ext.tape.trans M1.ext.tape, rr.ext.output.trans M1.ext.output, Nat.le_trans M1.ext.size hsz, fun k hk hio' => ?_⟩
    rw [rr.ext.block k (Nat.lt_of_lt_of_le hk M1.ext.size) (fun h => ?_), M1.ext.block k hk hio']
    rcases (hIOlt k h).2.2.2 with h | h
    · omega
    · exact hio' h
  · -- box
    intro b x hx
    rcases alive b x hx with ⟨i, h1, rfl, h2⟩ | ⟨h0, hid, i, h1, h2⟩ | ⟨h0, hid, h⟩
    · obtain ⟨q, e1, e2, _⟩ := rr.bs i x h2
      have hmem := List.mem_of_getElem? h2
      exact ⟨q, by rw [μ2new i h1]; exact e1, conv_box C (by rw [List.all_eq_true] at okbs; exact okbs x hmem) (hslb x hmem) e2⟩
    · obtain ⟨y, hy, hyz⟩ := h2.box
      obtain ⟨q, e1, _⟩ := M1.box b y hy
      obtain ⟨q', e2, e3⟩ := rr.outs i x (houts ▸ h1)
      rw [iok i x b h1 h2 q e1] at e2; cases e2
      refine ⟨q, by rw [μ2old b h0]; exact e1, conv_box C ?_ (hslo (i, x) h1) e3⟩
      rw [List.all_eq_true] at okouts
      exact okouts (i, x) (houts ▸ h1)
    · obtain ⟨q, e1, e2⟩ := M1.box b x h
      refine ⟨q, by rw [μ2old b h0]; exact e1, e2.mono T2 (fun ad hz ha => ?_)⟩
      refine rr.ext.same (M1.own b x q ad h hz e1 ha).2.2.1 (fun hio' => ?_)
      obtain ⟨j, id, q', y, ad', k1, k2, k3, k4, k5, k6, k7, _⟩ := hIO _ hio'
      have := M1.inj b id x y q q' ad ad' h k3 hz k4 e1 k5 ha k6 k7
      exact hid (this ▸ k2)
  · -- own
    intro b x q ad hx hz hq ha
    rcases range b x hx with ⟨i, hi, rfl⟩ | hb
    · rw [μ2new i hi] at hq
      obtain ⟨k1, k2, k3⟩ := newOwn i q ad hi hq ha
      have := M1.ext.size
      refine ⟨?_, fun h => ?_, k3, .inl (by omega)⟩
      · rintro (h | ⟨_, h, _⟩)
        · have := (M1.fz _ h).1; omega
        · exact k1 h
      · have := M1.block_lt h; omega
    · rw [μ2old b hb] at hq
      obtain ⟨y, hy, hyz⟩ := old b x hb hx hz
      obtain ⟨k1, k2, k3, k4⟩ := M1.own b y q ad hy hyz hq ha
      refine ⟨?_, k2, by omega, k4⟩
      rintro (h | ⟨_, _, h⟩)
      · exact k1 h
      · omega
  · -- inj
    intro b b' x x' q q' ad ad' hx hx' hz hz' hq hq' ha ha' he
    rcases range b x hx with ⟨i, hi, rfl⟩ | hb <;> rcases range b' x' hx' with ⟨j, hj, rfl⟩ | hb'
    · rw [μ2new i hi] at hq; rw [μ2new j hj] at hq'
      rw [rr.bsInj i j q q' ad ad' hi hj hq hq' ha ha' he]
    · rw [μ2new i hi] at hq; rw [μ2old b' hb'] at hq'
      obtain ⟨y, hy, hyz⟩ := old b' x' hb' hx' hz'
      have := (M1.own b' y q' ad' hy hyz hq' ha').2.2.1
      have := (newOwn i q ad hi hq ha).2.1
      omega
    · rw [μ2old b hb] at hq; rw [μ2new j hj] at hq'
      obtain ⟨y, hy, hyz⟩ := old b x hb hx hz
      have := (M1.own b y q ad hy hyz hq ha).2.2.1
      have := (newOwn j q' ad' hj hq' ha').2.1
      omega
    · rw [μ2old b hb] at hq; rw [μ2old b' hb'] at hq'
      obtain ⟨y, hy, hyz⟩ := old b x hb hx hz
      obtain ⟨y', hy', hyz'⟩ := old b' x' hb' hx' hz'
      exact M1.inj b b' y y' q q' ad ad' hy hy' hyz hyz' hq hq' ha ha' he
  · -- frozen
    rintro b (h | ⟨_, h, hs⟩)
    · have := M1.fz b h
      exact ⟨by omega, this.2⟩
    · have := M1.ext.size
      rcases rr.fz b h with h | h
      · have := A'lt b h; omega
      · exact ⟨h.2, .inr (.inl (by omega))⟩
end
end Go.E

set_option linter.unusedVariables false
namespace Go.E
open Go Go.RowKit

section
variable {P : Program} {E : Env} {w0 : World} {Ob A B F : Nat → Prop} {μ : Mu} {m : Hp} {w : World} {base : Nat} {s : St} {a : Act} {v : V} {m' : Hp}

theorem good_call (hE : EnvC P E) (h : Pre P E w0 Ob A B F μ s a w) (hb : Fresh μ base) {o : Oper} {c : Call} (ho : o.op = .call c) {f : Operand} (hc : c.callee = .value f) {g : Nat} {caps : List V} (hg : opnd E s f = .fn g caps)
    (hf : callK E g c.argTypes.toList (c.args.toList.map (opnd E s) ++ caps) base s.m (fun v m => some (v, m)) = some (v, m')) : Good P E.G w0 Ob A B F μ base o a w v m' := by
  have hfv := h.ev f
  rw [hg] at hfv
  simp only [R] at hfv
  obtain ⟨captured, ef, hcap⟩ := hfv
  have hargs : RL F B w μ (c.args.toList.map (opnd E s) ++ caps) (c.args.map a.eval ++ captured).toList := by
    simpa using RL.app (RL_map h.ev c.args.toList) hcap
  have hex : execOp a.eval o = callFunc g (c.args.map a.eval ++ captured) := by
    unfold execOp
    rw [ho]
    cases c with
    | mk callee args ats =>
      simp only at hc; subst hc
      simp [resolve, Deferred.ofValue, invoke, ef]
  intro Q N hN
  have hd := call_ok hE h.mem hb hargs hf
  unfold Oper.wp
  rw [hex]
  rcases hd with ⟨h1, h2⟩ | ⟨cv, w', h1, F', μ', h2, h3⟩
  · rw [h1]
    simp only [Oper.upon_enter]
    refine h2.mono ?_
    rintro e w' ⟨cv, rfl, F', μ', h3, h4⟩
    exact hN cv w' F' μ' h3 h4
  · rw [h1]
    exact hN cv w' F' μ' h2 h3

set_option maxHeartbeats 1000000 in
theorem good_op (hE : EnvC P E) (h : Pre P E w0 Ob A B F μ s a w) (hb : Fresh μ base) {o : Oper} (hf : opF E o.op base s = some (v, m')) : Good P E.G w0 Ob A B F μ base o a w v m' := by
  cases ho : o.op with
  | move x => exact good_move h ho hf
  | assign x => exact good_assign h ho hf
  | pick c x y => exact good_pick h ho hf
  | alloc t => exact good_alloc h hb ho hf
  | box t x => exact good_box h hb ho hf
  | build t ps => exact good_build h ho hf
  | buildSlice t l ps => exact good_buildSlice h hb ho hf
  | load t x => exact good_load h ho hf
  | store t x y => exact good_store h ho hf
  | nilCheck x => exact good_nilCheck h ho hf
  | binOp op t x y u => exact good_binOp h ho hf
  | unOp op t x => exact good_unOp h ho hf
  | convert x y z => exact good_convert h hb ho hf
  | fieldAddr t x i => exact good_fieldAddr h ho hf
  | field t x i => exact good_field h ho hf
  | indexAddr t x i => exact good_indexAddr h ho hf
  | index t x i => exact good_index h ho hf
  | slice t x lo hi mx => exact good_slice h ho hf
  | makeSlice t x y => exact good_makeSlice h hb ho hf
  | extract x i => exact good_extract h ho hf
  | makeFunc fn x y =>
    cases fn with
    | func f => exact good_makeFunc h ho hf
    | _ => rw [ho] at hf; simp [opF, opK] at hf
  | call c =>
    have hf0 := hf
    rw [ho] at hf; simp only [opF, opK] at hf
    split at hf
    · rename_i b hc
      obtain ⟨xs, hx⟩ : ∃ xs, c.args.toList.map (opnd E s) = xs := ⟨_, rfl⟩
      obtain ⟨ts, hts⟩ : ∃ ts, c.argTypes.toList = ts := ⟨_, rfl⟩
      rw [hx, hts] at hf
      have hf1 := hf
      unfold builtinK at hf
      split at hf
      · exact good_len h ho hc hx hts hf1
      · exact good_append h hb ho hc hx hts hf1
      · split at hf
        · rename_i e; subst e
          obtain ⟨rfl, rfl⟩ := ok_pair hf
          exact good_min2 h ho hc hx rfl rfl
        · cases hf
      · split at hf
        · rename_i e; subst e
          obtain ⟨rfl, rfl⟩ := ok_pair hf
          exact good_max2 h ho hc hx rfl rfl
        · cases hf
      · split at hf
        · rename_i e; obtain ⟨e1, e2⟩ := e; subst e1; subst e2
          obtain ⟨rfl, rfl⟩ := ok_pair hf
          exact good_min3 h ho hc hx rfl rfl
        · cases hf
      · cases hf
    · rename_i f hc
      split at hf
      · rename_i g caps hg
        exact good_call hE h hb ho hc hg hf
      · cases hf
    · cases hf
  | _ => rw [ho] at hf; simp [opF, opK] at hf
end
end Go.E

set_option linter.unusedVariables false
namespace Go.E
open Go Go.RowKit

/-- A state, and the machine's. 'base': the numbers from there on are free. -/
structure Rl (E : Env) (w0 : World) (Ob A B : Nat → Prop) (N : Nat) (μ0 : Mu) (base : Nat) (F : Nat → Prop) (μ : Mu) (s : St) (a : Act) (w : World) : Prop where
  mem : Mem E.G w0 Ob A B F μ s.m w
  tmps : ∀ t, R F B w μ (s.get t) (a.tmps.getD t undef)
  size : a.tmps.size = N
  defers : a.defers = []
  free : ∀ id, base ≤ id → μ id = none
  keep : μ0.le μ

def Rel (E : Env) (w0 : World) (Ob A B : Nat → Prop) (N : Nat) (μ0 : Mu) (base : Nat) (s : St) (a : Act) (w : World) : Prop := ∃ F μ, Rl E w0 Ob A B N μ0 base F μ s a w

section
variable {P : Program} {E : Env} {w0 : World} {Ob A B F : Nat → Prop} {μ : Mu} {m : Hp} {w : World} {N base : Nat} {μ0 : Mu} {s s' : St} {a : Act} {v : V} {m' : Hp}

theorem Rl.pre (hE : EnvC P E) (h : Rl E w0 Ob A B N μ0 base F μ s a w) : Pre P E w0 Ob A B F μ s a w where
  env := hE.ok
  mem := h.mem
  ev x := by
    cases x with
    | tmp t => exact h.tmps t
    | const v => exact ofVal_ok F B w μ v
    | global g =>
      simp only [opnd]
      split
      · rename_i cs hg; exact h.mem.glob g cs hg
      · simp only [R]
    | func f => simp only [opnd, R]; exact ⟨#[], rfl, by simp [RL]⟩

theorem Rl.fresh (h : Rl E w0 Ob A B N μ0 base F μ s a w) : Fresh μ base := fun k _ => h.free _ (by omega)

theorem get_put (s : St) (d : Option Nat) (v : V) (t : Nat) : (s.put d v).get t = if d = some t then v else s.get t := by
  cases d with
  | none => simp [St.put]
  | some d =>
    simp only [St.put, St.get, look]
    by_cases h : d = t
    · subst h; simp
    · simp [h]

theorem put_m (s : St) (d : Option Nat) (v : V) : (s.put d v).m = s.m := by cases d <;> rfl

/-- The places that code writes lie in the frame. -/
def dstOk (N : Nat) (o : Oper) : Bool := match o.dst with
  | some d => decide (d < N)
  | none => true

theorem getD_put {a : Act} {N : Nat} (hN : a.tmps.size = N) {d : Option Nat} (hd : ∀ t, d = some t → t < N) (cv : Value) (t : Nat) : (a.put d cv).tmps.getD t undef = if d = some t then cv else a.tmps.getD t undef := by
  cases d with
  | none => simp [Act.put]
  | some d =>
    have := hd d rfl
    simp only [Act.put, Array.getD_eq_getD_getElem?, Option.some.injEq]
    by_cases h : d = t
    · subst h; simp [hN, this]
    · simp [h]

theorem size_put (a : Act) (d : Option Nat) (cv : Value) : (a.put d cv).tmps.size = a.tmps.size := by cases d <;> simp [Act.put]
theorem defers_put (a : Act) (d : Option Nat) (cv : Value) : (a.put d cv).defers = a.defers := by cases d <;> rfl

theorem Rl.put (h : Rl E w0 Ob A B N μ0 base F μ s a w) {d : Option Nat} (hd : ∀ t, d = some t → t < N) {cv : Value} (hv : R F B w μ v cv) : Rl E w0 Ob A B N μ0 base F μ (s.put d v) (a.put d cv) w where
  mem := by rw [put_m]; exact h.mem
  tmps t := by
    rw [get_put, getD_put h.size hd]; split
    · exact hv
    · exact h.tmps t
  size := by rw [size_put]; exact h.size
  defers := by rw [defers_put]; exact h.defers
  free := h.free
  keep := h.keep

theorem Rl.step (h : Rl E w0 Ob A B N μ0 base F μ s a w) {F' : Nat → Prop} {μ' : Mu} {w' : World} {b : Nat} (hb : base ≤ b) (hs : Step1 E.G w0 Ob A B F μ w b F' μ' m' w') : Rl E w0 Ob A B N μ0 (b + stride) F' μ' { s with m := m' } a w' where
  mem := hs.mem
  tmps t := hs.tr.R (h.tmps t)
  size := h.size
  defers := h.defers
  free id hid := hs.loc id (by unfold stride at hid; omega) (h.free id (by unfold stride at hid; omega))
  keep := Mu.le_trans h.keep hs.tr.mu

theorem Rl.weak (h : Rl E w0 Ob A B N μ0 base F μ s a w) {b : Nat} (hb : base ≤ b) : Rl E w0 Ob A B N μ0 b F μ s a w := ⟨h.mem, h.tmps, h.size, h.defers, fun id hid => h.free id (by omega), h.keep⟩

/-- States that say the same. -/
def Eqv (s s' : St) : Prop := s.m = s'.m ∧ ∀ t, s.get t = s'.get t

theorem Rl.eqv (h : Rl E w0 Ob A B N μ0 base F μ s a w) (e : Eqv s s') : Rl E w0 Ob A B N μ0 base F μ s' a w := ⟨e.1 ▸ h.mem, fun t => e.2 t ▸ h.tmps t, h.size, h.defers, h.free, h.keep⟩

theorem Rl.guard (h : Rl E w0 Ob A B N μ0 base F μ s a w) {ops : Array Oper} {j : Nat} {oj : Oper} {d : Nat} (hj : ops[j]? = some oj) (hd : oj.dst = some d) (hdN : d < N) :
    (∀ b, s.get d = .val .bool b → yielded ops a.tmps j = some b) ∧ (s.get d = .tup [] → yielded ops a.tmps j = none) := by
  have e : yielded ops a.tmps j = match a.tmps[d]? with | some (.bool b) => some b | _ => none := by
    simp only [yielded, hj, hd, Option.bind_some]
    rfl
  have e2 : a.tmps[d]? = some (a.tmps.getD d undef) := by
    rw [Array.getD_eq_getD_getElem?, Array.getElem?_eq_getElem (by rw [h.size]; exact hdN)]; rfl
  have hr := h.tmps d
  constructor
  · intro b hb
    rw [hb] at hr
    rw [e, e2, R_bool hr]
  · intro hb
    rw [hb] at hr
    simp only [R] at hr
    obtain ⟨vs, e3, _⟩ := hr
    rw [e, e2, e3]

/-- One operation. -/
theorem sound_op (hE : EnvC P E) (h : Rl E w0 Ob A B N μ0 base F μ s a w) {b : Nat} (hb : base ≤ b) {o : Oper} (hd : dstOk N o = true) (hf : opF E o.op b s = some (v, m')) {Nx : Act → World → Prop} {Q : Exit → Act → World → Prop}
    (hN : ∀ a' w', Rel E w0 Ob A B N μ0 (b + stride) ({ s with m := m' }.put o.dst v) a' w' → Nx a' w') : o.wp P a w Nx Q := by
  refine good_op hE (h.pre hE) (h.weak hb).fresh hf Q Nx (fun cv w' F' μ' hs hv => hN _ _ ⟨F', μ', (h.step hb hs).put (fun t e => ?_) hv⟩)
  unfold dstOk at hd; rw [e] at hd; simpa using hd

theorem R_undef0 (F B : Nat → Prop) (w : World) (μ : Mu) : R F B w μ (.tup []) Go.undef := by simp only [R]; exact ⟨#[], rfl, by simp [RL]⟩

theorem dst_lt {o : Oper} (hd : dstOk N o = true) : ∀ t, o.dst = some t → t < N := fun t e => by unfold dstOk at hd; rw [e] at hd; simpa using hd

theorem iteB_cases {R : Type} {b : Bool} {x y : Option R} {r : R} (h : iteB b x y = some r) : (b = true ∧ x = some r) ∨ (b = false ∧ y = some r) := iteB_some h

theorem eqv_bool {d : Nat} {b : Bool} (h : s.get d = .val .bool b) : Eqv s (s.put (some d) (.val .bool b)) := by
  refine ⟨rfl, fun t => ?_⟩
  rw [get_put]
  split
  · rename_i e; cases e; exact h
  · rfl

/-- A region whose operations are carried out one by one as they stand. -/
theorem sound_ops (hE : EnvC P E) {ops : Array Oper} (hN : ops.all (dstOk N) = true) {ρ : Type} {K : St → Option ρ} {r : ρ} {Q : Exit → Act → World → Prop} :
    ∀ (l : List Oper) (is : List Nat), is.map (fun i => ops[i]?) = l.map some → ∀ (base : Nat) (s : St) (a : Act) (w : World), Rel E w0 Ob A B N μ0 base s a w → opsK E ops l base s K = some r →
      (∀ s' a' w', K s' = some r → Rel E w0 Ob A B N μ0 s'.n s' a' w' → Q .normal a' w') → wpOps P ops Q is a w
  | [], [], _, base, s, a, w, ⟨F, μ, h⟩, hr, hQ => by
    simp only [opsK] at hr
    simp only [wpOps]
    exact hQ _ a w hr ⟨F, μ, h.mem, h.tmps, h.size, h.defers, h.free, h.keep⟩
  | [], _ :: _, hi, _, _, _, _, _, _, _ => by simp at hi
  | _ :: _, [], hi, _, _, _, _, _, _, _ => by simp at hi
  | o :: l, i :: is, hi, base, s, a, w, ⟨F, μ, h⟩, hr, hQ => by
    simp only [List.map_cons, List.cons.injEq] at hi
    obtain ⟨hio, hi⟩ := hi
    have hmem : ∀ {k : Nat} {ok : Oper}, ops[k]? = some ok → dstOk N ok = true := fun {k ok} e => Array.all_eq_true_iff_forall_mem.1 hN ok (Array.mem_of_getElem? e)
    have hd := hmem hio
    -- it is carried out
    have doit : ∀ s, Rl E w0 Ob A B N μ0 base F μ s a w → (opK E o.op base s fun v m => opsK E ops l (base + stride) ({ s with m := m }.put o.dst v) K) = some r → o.wp P a w (wpOps P ops Q is) Q := fun s h hr => by
      rw [opK_eq hE.ok.nat, Option.bind_eq_some_iff] at hr
      obtain ⟨⟨v, m'⟩, h1, h2⟩ := hr
      exact sound_op hE h (Nat.le_refl _) hd h1 (fun a' w' hrel => sound_ops hE hN l is hi _ _ a' w' hrel h2 hQ)
    -- it is passed by
    have skip : ∀ s, Rl E w0 Ob A B N μ0 base F μ s a w → opsK E ops l (base + stride) (s.put o.dst (.tup [])) K = some r → wpOps P ops Q is (a.put o.dst undef) w := fun s h hr =>
      sound_ops hE hN l is hi _ _ _ _ ⟨F, μ, (h.weak (by omega)).put (dst_lt hd) (R_undef0 _ _ _ _)⟩ hr hQ
    simp only [wpOps, hio]
    simp only [opsK] at hr
    split at hr
    · rename_i hg
      rw [if_pos (by simp [Region.wanted, hg])]
      exact .inl (doit s h hr)
    · rename_i j want hg
      have hwt : Region.wanted o (yielded ops a.tmps) = (yielded ops a.tmps j == some want) := by simp [Region.wanted, hg]
      split at hr
      · cases hr
      rename_i oj hoj
      split at hr
      · cases hr
      rename_i d hdj
      have hdN := dst_lt (hmem hoj) d hdj
      obtain ⟨g1, g2⟩ := h.guard hoj hdj hdN
      split at hr
      · rename_i b hb
        have hy := g1 b hb
        rw [hwt, hy]
        split at hr
        · rcases iteB_cases hr with ⟨rfl, hr⟩ | ⟨rfl, hr⟩
          · rw [if_pos (by simp)]; exact .inl (doit _ (h.eqv (eqv_bool hb)) hr)
          · rw [if_neg (by simp)]; exact skip _ (h.eqv (eqv_bool hb)) hr
        · rcases iteB_cases hr with ⟨rfl, hr⟩ | ⟨rfl, hr⟩
          · rw [if_neg (by simp)]; exact skip _ (h.eqv (eqv_bool hb)) hr
          · rw [if_pos (by simp)]; exact .inl (doit _ (h.eqv (eqv_bool hb)) hr)
      · rename_i hb
        rw [hwt, g2 hb, if_neg (by simp)]
        exact skip s h hr
      · cases hr
end
end Go.E

set_option linter.unusedVariables false
namespace Go.E
open Go Go.RowKit

section
variable {P : Program} {E : Env} {G : List (Nat × List V)} {w0 : World} {Ob A B F : Nat → Prop} {μ : Mu} {m : Hp} {w : World} {N base : Nat} {μ0 : Mu} {s s' : St} {a : Act} {v : V} {m' : Hp}

/-- The numbers, given out anew. -/
structure CInv (F B : Nat → Prop) (w : World) (μ : Mu) (m : Hp) (a : Acc) (ν : Mu) : Prop where
  ren : ∀ b c, look a.ren b = some c → c < a.n ∧ ν c = μ b
  dom : ∀ c, a.n ≤ c → ν c = none
  heap : ∀ c x', a.m.at c = some x' → ∃ b x q, look a.ren b = some c ∧ m.at b = some x ∧ μ b = some (some q) ∧ x'.isFz = x.isFz ∧ BoxRel F B w ν x' q
  inj : ∀ b b' c, look a.ren b = some c → look a.ren b' = some c → b = b'

def Mu.sub (ν ν' : Mu) : Prop := ∀ c o, ν c = some o → ν' c = some o
theorem Mu.sub.le {ν ν' : Mu} (h : ν.sub ν') : ν.le ν' := fun c o e => ⟨o, h c o e, .inr rfl⟩
theorem Mu.sub.trans {ν ν' ν'' : Mu} (h : ν.sub ν') (k : ν'.sub ν'') : ν.sub ν'' := fun c o e => k c o (h c o e)

theorem tr_mu {B F : Nat → Prop} {w : World} {ν ν' : Mu} (h : ν.sub ν') : Tr B F F ν ν' w w := ⟨fun _ x => x, fun _ _ _ _ e => e, fun _ _ _ _ e => e, h.le⟩

theorem look_cons {α : Type} (k : Nat) (x : α) (l : List (Nat × α)) (j : Nat) : look ((k, x) :: l) j = if k = j then some x else look l j := rfl

/-- A number more. -/
theorem CInv.new {c0 : Acc} {ν : Mu} (h : CInv F B w μ m c0 ν) {b : Nat} (hb : look c0.ren b = none) :
    CInv F B w μ m { ren := (b, c0.n) :: c0.ren, m := c0.m, n := c0.n + 1 } (fun c => if c = c0.n then μ b else ν c) ∧ ν.sub (fun c => if c = c0.n then μ b else ν c) := by
  have sub : ν.sub (fun c => if c = c0.n then μ b else ν c) := fun c o e => by
    simp only
    rw [if_neg, e]
    rintro rfl
    rw [h.dom c0.n (Nat.le_refl _)] at e; cases e
  refine ⟨⟨fun b' c e => ?_, fun c hc => ?_, fun c x' hx => ?_, fun b1 b2 c e1 e2 => ?_⟩, sub⟩
  · rw [look_cons] at e
    split at e
    · rename_i e'; subst e'; cases e; exact ⟨Nat.lt_succ_self _, by simp⟩
    · have := h.ren b' c e
      exact ⟨Nat.lt_succ_of_lt this.1, by show (if _ then _ else _) = _; rw [if_neg (by omega)]; exact this.2⟩
  · have hc' : c0.n + 1 ≤ c := hc
    show (if _ then _ else _) = _
    rw [if_neg (by omega)]; exact h.dom c (by omega)
  · obtain ⟨b', x, q, h1, h2, h3, h4, h5⟩ := h.heap c x' hx
    refine ⟨b', x, q, ?_, h2, h3, h4, h5.mono (tr_mu sub) (fun _ _ _ _ => ⟨rfl, rfl⟩)⟩
    rw [look_cons, if_neg]; · exact h1
    rintro rfl
    rw [hb] at h1; cases h1
  · rw [look_cons] at e1 e2
    split at e1 <;> split at e2
    · rename_i x y; exact x.symm.trans y
    · cases e1; have := (h.ren b2 _ e2).1; omega
    · cases e2; have := (h.ren b1 _ e1).1; omega
    · exact h.inj b1 b2 c e1 e2

/-- A box for a number. -/
theorem CInv.box {c0 : Acc} {ν : Mu} (h : CInv F B w μ m c0 ν) {b c : Nat} {x x' : Bx} {q : MB} (h1 : look c0.ren b = some c) (h2 : m.at b = some x) (h3 : μ b = some (some q)) (h4 : x'.isFz = x.isFz) (h5 : BoxRel F B w ν x' q) :
    CInv F B w μ m { c0 with m := (c, some x') :: c0.m } ν := by
  refine ⟨h.ren, h.dom, fun c' y hy => ?_, h.inj⟩
  rw [Hp.at_cons] at hy
  split at hy
  · rename_i e; subst e; cases hy; exact ⟨b, x, q, h1, h2, h3, h4, h5⟩
  · exact h.heap c' y hy

def CGood (F B : Nat → Prop) (w : World) (μ : Mu) (m : Hp) (f : V → Acc → V × Acc) : Prop := ∀ v c0 ν, CInv F B w μ m c0 ν →
  ∃ ν', CInv F B w μ m (f v c0).2 ν' ∧ ν.sub ν' ∧ (∀ b c, look c0.ren b = some c → look (f v c0).2.ren b = some c) ∧ ∀ cv, R F B w μ v cv → R F B w ν' (f v c0).1 cv

theorem accMap_ok {f : V → Acc → V × Acc} (hf : CGood F B w μ m f) : ∀ (l : List V) (c0 : Acc) (ν : Mu), CInv F B w μ m c0 ν →
    ∃ ν', CInv F B w μ m (accMap f l c0).2 ν' ∧ ν.sub ν' ∧ (∀ b c, look c0.ren b = some c → look (accMap f l c0).2.ren b = some c) ∧ ∀ vs, RL F B w μ l vs → RL F B w ν' (accMap f l c0).1 vs
  | [], c0, ν, h => ⟨ν, h, fun _ _ e => e, fun _ _ e => e, fun vs hr => by cases vs <;> simp only [RL] at hr; simp only [accMap, RL]⟩
  | v :: l, c0, ν, h => by
    obtain ⟨ν1, i1, s1, r1, k1⟩ := hf v c0 ν h
    obtain ⟨ν2, i2, s2, r2, k2⟩ := accMap_ok hf l _ ν1 i1
    refine ⟨ν2, i2, s1.trans s2, fun b c e => r2 b c (r1 b c e), fun vs hr => ?_⟩
    cases vs with
    | nil => simp only [RL] at hr
    | cons cv vs =>
      simp only [RL] at hr
      simp only [accMap, RL]
      exact ⟨(tr_mu s2).R (k1 cv hr.1), k2 vs hr.2⟩

theorem canV_ok (hM : Mem G w0 Ob A B F μ m w) : ∀ k, CGood F B w μ m (canV m k)
  | 0, v, c0, ν, h => ⟨ν, h, fun _ _ e => e, fun _ _ e => e, fun cv _ => by simp only [canV, R]⟩
  | k + 1, v, c0, ν, h => by
    have ih := canV_ok hM k
    have same : ∀ v', (∀ cv, R F B w μ v cv → R F B w ν v' cv) → ∃ ν', CInv F B w μ m c0 ν' ∧ ν.sub ν' ∧ (∀ b c, look c0.ren b = some c → look c0.ren b = some c) ∧ ∀ cv, R F B w μ v cv → R F B w ν' v' cv :=
      fun v' hv => ⟨ν, h, fun _ _ e => e, fun _ _ e => e, hv⟩
    have und : ∀ cv, R F B w μ v cv → R F B w ν .undef cv := fun cv _ => by simp only [R]
    have list : ∀ (l : List V) (mk : List V → V), (∀ cv, R F B w μ v cv → ∀ ν' l', (∀ vs, RL F B w μ l vs → RL F B w ν' l' vs) → R F B w ν' (mk l') cv) →
        ∃ ν', CInv F B w μ m (accMap (canV m k) l c0).2 ν' ∧ ν.sub ν' ∧ (∀ b c, look c0.ren b = some c → look (accMap (canV m k) l c0).2.ren b = some c) ∧ ∀ cv, R F B w μ v cv → R F B w ν' (mk (accMap (canV m k) l c0).1) cv := fun l mk hmk => by
      obtain ⟨ν1, i1, s1, r1, k1⟩ := accMap_ok ih l c0 ν h
      exact ⟨ν1, i1, s1, r1, fun cv hr => hmk cv hr _ _ k1⟩
    cases v with
    | undef => exact same _ und
    | val τ x => exact same _ (fun cv hr => idFree_R (fun _ x => x) (keep_refl _ _) rfl hr)
    | nil => exact same _ (fun cv hr => idFree_R (fun _ x => x) (keep_refl _ _) rfl hr)
    | nilp => exact same _ (fun cv hr => idFree_R (fun _ x => x) (keep_refl _ _) rfl hr)
    | ep b i off => exact same _ und
    | rp τ x => exact same _ (fun cv hr => by simp only [R] at hr ⊢; exact hr)
    | agg cs => exact list cs .agg (fun cv hr ν' l' hl => by simp only [R] at hr ⊢; obtain ⟨vs, e, k⟩ := hr; exact ⟨vs, e, hl _ k⟩)
    | tup cs => exact list cs .tup (fun cv hr ν' l' hl => by simp only [R] at hr ⊢; obtain ⟨vs, e, k⟩ := hr; exact ⟨vs, e, hl _ k⟩)
    | rc cs => exact list cs .rc (fun cv hr ν' l' hl => by simp only [R] at hr ⊢; obtain ⟨ad, vs, e1, e2, e3, e4, e5⟩ := hr; exact ⟨ad, vs, e1, e2, e3, hl _ e4, e5⟩)
    | fn f cs => exact list cs (.fn f) (fun cv hr ν' l' hl => by simp only [R] at hr ⊢; obtain ⟨vs, e, k⟩ := hr; exact ⟨vs, e, hl _ k⟩)
    | arr b =>
      have arrR : ∀ ν' c, (ν' c = μ b) → ∀ cv, R F B w μ (.arr b) cv → R F B w ν' (.arr c) cv := fun ν' c e cv hr => by
        simp only [R] at hr ⊢; rw [e]; exact hr
      simp only [canV]
      split
      · rename_i c hc
        exact same _ (arrR ν c (h.ren b c hc).2)
      · rename_i hc
        obtain ⟨n1, n2⟩ := h.new hc
        have hn : (fun c => if c = c0.n then μ b else ν c) c0.n = μ b := by simp
        have fin : ∀ x : Bx, m.at b = some x → (∀ ν' q, ν.sub ν' → BoxRel F B w μ x q → BoxRel F B w ν' x q) →
            ∃ ν', CInv F B w μ m { ren := (b, c0.n) :: c0.ren, m := (c0.n, some x) :: c0.m, n := c0.n + 1 } ν' ∧ ν.sub ν' ∧
              (∀ b' c, look c0.ren b' = some c → look ((b, c0.n) :: c0.ren) b' = some c) ∧ ∀ cv, R F B w μ (.arr b) cv → R F B w ν' (.arr c0.n) cv := fun x hx hbx => by
          obtain ⟨q, e1, e2⟩ := hM.box b x hx
          refine ⟨_, n1.box (by rw [look_cons, if_pos rfl]) hx e1 rfl (hbx _ q n2 e2), n2, fun b' c e => ?_, arrR _ _ hn⟩
          rw [look_cons, if_neg]; · exact e
          rintro rfl
          rw [hc] at e; cases e
        split
        · rename_i τ l hx; exact fin _ hx (fun ν' q _ hb => hb)
        · rename_i τ l hx; exact fin _ hx (fun ν' q _ hb => hb)
        · exact same _ und
    | ptr b off =>
      have ptrR : ∀ ν' c, (ν' c = μ b) → ∀ cv, R F B w μ (.ptr b off) cv → R F B w ν' (.ptr c off) cv := fun ν' c e cv hr => by
        simp only [R] at hr ⊢; rw [e]; exact hr
      simp only [canV]
      split
      · rename_i c hc
        exact same _ (ptrR ν c (h.ren b c hc).2)
      · rename_i hc
        obtain ⟨n1, n2⟩ := h.new hc
        have hn : (fun c => if c = c0.n then μ b else ν c) c0.n = μ b := by simp
        split
        · rename_i cs hx
          obtain ⟨q, e1, ad, vs, e2, e3, e4, e5, e6⟩ := hM.box b _ hx
          obtain ⟨ν2, i2, s2, r2, k2⟩ := accMap_ok ih cs _ _ n1
          have hl : (accMap (canV m k) cs { ren := (b, c0.n) :: c0.ren, m := c0.m, n := c0.n + 1 }).1.length = cs.length := by
            rw [RL.len (k2 vs e4), RL.len e4]
          have hr : look (accMap (canV m k) cs { ren := (b, c0.n) :: c0.ren, m := c0.m, n := c0.n + 1 }).2.ren b = some c0.n := r2 b _ (by rw [look_cons, if_pos rfl])
          refine ⟨ν2, i2.box hr hx e1 rfl ⟨ad, vs, e2, e3, k2 vs e4, e5, by rw [hl]; exact e6⟩, n2.trans s2, fun b' c e => r2 b' c ?_, ptrR _ _ ((i2.ren b _ hr).2)⟩
          rw [look_cons, if_neg]; · exact e
          rintro rfl
          rw [hc] at e; cases e
        · exact same _ und

theorem canT_ok (hM : Mem G w0 Ob A B F μ s.m w) : ∀ (l : List Nat) (c0 : Acc) (ν : Mu), CInv F B w μ s.m c0 ν →
    ∃ ν', CInv F B w μ s.m (canT s l c0).2 ν' ∧ ν.sub ν' ∧ ∀ t u, look (canT s l c0).1 t = some u → ∀ cv, R F B w μ (s.get t) cv → R F B w ν' u cv
  | [], c0, ν, h => ⟨ν, h, fun _ _ e => e, fun t u e => by cases e⟩
  | t :: l, c0, ν, h => by
    obtain ⟨ν1, i1, s1, _, k1⟩ := canV_ok hM 4 (s.get t) c0 ν h
    obtain ⟨ν2, i2, s2, k2⟩ := canT_ok hM l _ ν1 i1
    refine ⟨ν2, i2, s1.trans s2, fun t' u e cv hr => ?_⟩
    simp only [canT] at e
    rw [look_cons] at e
    split at e
    · rename_i e'; subst e'; cases e; exact (tr_mu s2).R (k1 cv hr)
    · exact k2 t' u e cv hr

theorem keepB_ok (hM : Mem G w0 Ob A B F μ m w) : ∀ (l : List Nat) (c0 : Acc) (ν : Mu), CInv F B w μ m c0 ν → (∀ i ∈ l, look c0.ren i = some i) →
    ∃ ν', CInv F B w μ m (keepB m l c0) ν' ∧ ν.sub ν'
  | [], c0, ν, h, _ => ⟨ν, h, fun _ _ e => e⟩
  | i :: l, c0, ν, h, hl => by
    have hi := hl i (by simp)
    have hl' : ∀ j ∈ l, look c0.ren j = some j := fun j hj => hl j (List.mem_cons_of_mem _ hj)
    simp only [keepB]
    split
    · rename_i cs hx
      obtain ⟨q, e1, ad, vs, e2, e3, e4, e5, e6⟩ := hM.box i _ hx
      obtain ⟨ν2, i2, s2, r2, k2⟩ := accMap_ok (canV_ok hM 4) cs c0 ν h
      have hlen : (accMap (canV m 4) cs c0).1.length = cs.length := by rw [RL.len (k2 vs e4), RL.len e4]
      obtain ⟨ν3, i3, s3⟩ := keepB_ok hM l _ ν2 (i2.box (x' := .cs (accMap (canV m 4) cs c0).1) (r2 i i hi) hx e1 rfl ⟨ad, vs, e2, e3, k2 vs e4, e5, by rw [hlen]; exact e6⟩) (fun j hj => r2 j j (hl' j hj))
      exact ⟨ν3, i3, s2.trans s3⟩
    · rename_i τ r hx
      obtain ⟨q, e1, e2⟩ := hM.box i _ hx
      exact keepB_ok hM l _ ν (h.box hi hx e1 rfl e2) hl'
    · rename_i τ r hx
      obtain ⟨q, e1, e2⟩ := hM.box i _ hx
      exact keepB_ok hM l _ ν (h.box hi hx e1 rfl e2) hl'
    · exact keepB_ok hM l _ ν h hl'

theorem look_id {l : List Nat} {i c : Nat} (h : look (l.map fun i => (i, i)) i = some c) : i = c ∧ i ∈ l := by
  induction l with
  | nil => cases h
  | cons j r ih =>
    simp only [List.map_cons, look_cons] at h
    split at h
    · rename_i e; subst e; cases h; exact ⟨rfl, by simp⟩
    · exact ⟨(ih h).1, List.mem_cons_of_mem _ (ih h).2⟩
theorem look_mem {l : List Nat} {i : Nat} (h : i ∈ l) : look (l.map fun i => (i, i)) i = some i := by
  induction l with
  | nil => cases h
  | cons j r ih =>
    simp only [List.map_cons, look_cons]
    split
    · rename_i e; rw [e]
    · rename_i e; exact ih ((List.mem_cons.1 h).resolve_left (fun e' => e e'.symm))
theorem lt_bound {l : List Nat} {i : Nat} (h : i ∈ l) : i < boundOf l := by
  induction l with
  | nil => cases h
  | cons j r ih =>
    simp only [boundOf]
    rcases List.mem_cons.1 h with rfl | h
    · omega
    · have := ih h; omega

theorem canon_ok (hE : EnvC P E) {kp live : List Nat} (hkp : ∀ i o, μ0 i = some o → i ∈ kp) (h : Rel E w0 Ob A B N μ0 base s a w) : Rel E w0 Ob A B N μ0 (canon kp live s).n (canon kp live s) a w := by
  obtain ⟨F, μ, h⟩ := h
  have hM := h.mem
  have i0 : CInv F B w μ s.m { ren := kp.map fun i => (i, i), m := [], n := boundOf kp } (fun c => if c ∈ kp then μ c else none) := by
    refine ⟨fun b c e => ?_, fun c hc => ?_, fun c x e => (by cases e), fun b b' c e e' => ?_⟩
    · obtain ⟨rfl, hm⟩ := look_id e
      exact ⟨lt_bound hm, if_pos hm⟩
    · refine if_neg (fun hm => ?_)
      have := lt_bound hm
      have hc' : boundOf kp ≤ c := hc
      omega
    · rw [(look_id e).1, (look_id e').1]
  obtain ⟨ν1, i1, s1⟩ := keepB_ok hM kp _ _ i0 (fun i hi => look_mem hi)
  obtain ⟨ν, i, s2, k⟩ := canT_ok hM live _ _ i1
  refine ⟨F, ν, ⟨hM.ext, fun c x' hx => ?_, fun c x' q ad hx hz hq ha => ?_, fun c c' x x' q q' ad ad' hx hx' hz hz' hq hq' ha ha' he => ?_, hM.fz, hM.bz, fun g cs hg => ?_⟩, fun t => ?_, h.size, h.defers, i.dom, fun b o e => ?_⟩
  · obtain ⟨b, x, q, h1, h2, h3, h4, h5⟩ := i.heap c x' hx
    exact ⟨q, by rw [(i.ren b c h1).2]; exact h3, h5⟩
  · obtain ⟨b, x, q', h1, h2, h3, h4, h5⟩ := i.heap c x' hx
    rw [(i.ren b c h1).2, h3] at hq; cases hq
    exact hM.own b x q ad h2 (h4 ▸ hz) h3 ha
  · obtain ⟨b, y, p, h1, h2, h3, h4, h5⟩ := i.heap c x hx
    obtain ⟨b', y', p', k1, k2, k3, k4, k5⟩ := i.heap c' x' hx'
    rw [(i.ren b c h1).2, h3] at hq; cases hq
    rw [(i.ren b' c' k1).2, k3] at hq'; cases hq'
    have := hM.inj b b' y y' q q' ad ad' h2 k2 (h4 ▸ hz) (k4 ▸ hz') h3 k3 ha ha' he
    subst this
    rw [h1] at k1; cases k1; rfl
  · have := hM.glob g cs hg
    simp only [R] at this ⊢
    obtain ⟨ad, vs, e1, e2, e3, e4, e5⟩ := this
    exact ⟨ad, vs, e1, e2, e3, idFree_RL (fun _ x => x) (keep_refl _ _) (hE.glb g cs hg) e4, e5⟩
  · have hg : (canon kp live s).get t = match look (canT s live (keepB s.m kp { ren := kp.map fun i => (i, i), m := [], n := boundOf kp })).1 t with | some v => v | none => .undef := rfl
    rw [hg]
    cases e : look (canT s live (keepB s.m kp { ren := kp.map fun i => (i, i), m := [], n := boundOf kp })).1 t with
    | none => simp only [R]
    | some u => exact k t u e _ (h.tmps t)
  · obtain ⟨o', e1, e2⟩ := h.keep b o e
    exact ⟨o', s2 b o' (s1 b o' (by show (if _ then _ else _) = _; rw [if_pos (hkp b o e)]; exact e1)), e2⟩

theorem canAt_ok (hE : EnvC P E) {kp : List Nat} (hkp : ∀ i o, μ0 i = some o → i ∈ kp) {tab : List (Nat × List Nat)} {c : Code} (h : Rel E w0 Ob A B N μ0 s.n s a w) : Rel E w0 Ob A B N μ0 (canAt kp tab c s).n (canAt kp tab c s) a w := by
  unfold canAt
  split
  · split
    · exact canon_ok hE hkp h
    · exact h
  · exact h
end
end Go.E

set_option linter.unusedVariables false
namespace Go.E
open Go Go.RowKit

section
variable {E : Env} {ρ : Type} {s s2 : St}

theorem map_congrL {l : List Operand} (h : ∀ x ∈ l, opnd E s2 x = opnd E s x) : l.map (opnd E s2) = l.map (opnd E s) := List.map_congr_left h

theorem parts_congr {l : List (Nat × Operand)} (h : ∀ x ∈ l.map (·.2), opnd E s2 x = opnd E s x) : partsOf E s2 l = partsOf E s l :=
  List.map_congr_left fun p hp => by rw [h p.2 (List.mem_map_of_mem hp)]

set_option maxHeartbeats 1000000 in
theorem opK_congr {o : Op} (h : ∀ x ∈ o.operands.toList, opnd E s2 x = opnd E s x) (hm : s2.m = s.m) (base : Nat) (K : V → Hp → Option ρ) : opK E o base s2 K = opK E o base s K := by
  cases o with
  | build t ps => simp only [opK, hm, parts_congr (E := E) (s := s) (s2 := s2) (l := ps.toList) (fun x hx => h x (by simpa [Op.operands] using hx))]
  | buildSlice t n ps => simp only [opK, hm, parts_congr (E := E) (s := s) (s2 := s2) (l := ps.toList) (fun x hx => h x (by simpa [Op.operands] using hx))]
  | makeFunc fn a b =>
    cases fn with
    | func f => simp only [opK, hm, map_congrL (E := E) (s := s) (s2 := s2) (l := b.toList) (fun x hx => h x (by simp [Op.operands]; right; simpa using hx))]
    | _ => rfl
  | call c =>
    have ha := map_congrL (E := E) (s := s) (s2 := s2) (l := c.args.toList) (fun x hx => h x (by simp [Op.operands, Call.operands]; right; simpa using hx))
    simp only [opK]
    cases hc : c.callee with
    | builtin b => simp only [ha, hm]
    | value f =>
      have hf := h f (by simp [Op.operands, Call.operands, hc])
      simp only [ha, hm, hf]
    | invoke r n => rfl
  | slice t x lo hi mx =>
    cases mx with
    | some _ => rfl
    | none =>
      have hx := h x (by simp [Op.operands])
      have hl : ∀ d (K : Int → Option ρ), wOI E s2 lo d K = wOI E s lo d K := fun d K => by
        cases lo with
        | none => rfl
        | some y => simp only [wOI, h y (by simp [Op.operands])]
      have hh : ∀ d (K : Int → Option ρ), wOI E s2 hi d K = wOI E s hi d K := fun d K => by
        cases hi with
        | none => rfl
        | some y => simp only [wOI, h y (by simp [Op.operands])]
      simp only [opK, hx, hm, hl, hh]
  | move x => have h1 := h x (by simp [Op.operands]); simp only [opK, h1, hm]
  | assign x => have h1 := h x (by simp [Op.operands]); simp only [opK, h1, hm]
  | pick c x y => have h1 := h c (by simp [Op.operands]); have h2 := h x (by simp [Op.operands]); have h3 := h y (by simp [Op.operands]); simp only [opK, h1, h2, h3, hm]
  | alloc t => simp only [opK, hm]
  | box t x => have h1 := h x (by simp [Op.operands]); simp only [opK, h1, hm]
  | load t x => have h1 := h x (by simp [Op.operands]); simp only [opK, h1, hm]
  | store t x y => have h1 := h x (by simp [Op.operands]); have h2 := h y (by simp [Op.operands]); simp only [opK, h1, h2, hm]
  | nilCheck x => have h1 := h x (by simp [Op.operands]); simp only [opK, h1, hm]
  | binOp op t x y u => have h1 := h x (by simp [Op.operands]); have h2 := h y (by simp [Op.operands]); simp only [opK, h1, h2, hm]
  | unOp op t x => have h1 := h x (by simp [Op.operands]); simp only [opK, h1, hm]
  | convert t u x => have h1 := h x (by simp [Op.operands]); simp only [opK, h1, hm]
  | fieldAddr t x i => have h1 := h x (by simp [Op.operands]); simp only [opK, h1, hm]
  | field t x i => have h1 := h x (by simp [Op.operands]); simp only [opK, h1, hm]
  | indexAddr t x y => have h1 := h x (by simp [Op.operands]); have h2 := h y (by simp [Op.operands]); simp only [opK, h1, h2, hm]
  | index t x y => have h1 := h x (by simp [Op.operands]); have h2 := h y (by simp [Op.operands]); simp only [opK, h1, h2, hm]
  | makeSlice t x y => have h1 := h x (by simp [Op.operands]); have h2 := h y (by simp [Op.operands]); simp only [opK, h1, h2, hm]
  | extract x i => have h1 := h x (by simp [Op.operands]); simp only [opK, h1, hm]
  | _ => rfl

theorem opF_congr {o : Op} (h : ∀ x ∈ o.operands.toList, opnd E s2 x = opnd E s x) (hm : s2.m = s.m) (base : Nat) : opF E o base s2 = opF E o base s := opK_congr h hm base _
end

/-! What an operation adds to the memory, it adds in front. -/

def Suf (m m' : Hp) : Prop := ∃ p, m' = p ++ m
theorem Suf.refl (m : Hp) : Suf m m := ⟨[], rfl⟩
theorem Suf.cons {m m' : Hp} (x : Nat × Option Bx) (h : Suf m m') : Suf m (x :: m') := by obtain ⟨p, rfl⟩ := h; exact ⟨x :: p, rfl⟩
theorem Suf.trans {m m' m'' : Hp} (h : Suf m m') (k : Suf m' m'') : Suf m m'' := by obtain ⟨p, rfl⟩ := h; obtain ⟨q, rfl⟩ := k; exact ⟨q ++ p, by simp⟩
theorem suf_frz1 (m : Hp) (v : V) : Suf m (frz1 m v) := by
  cases v <;> simp only [frz1] <;> first | exact Suf.refl _ | skip
  split
  · exact (Suf.refl _).cons _
  · exact Suf.refl _
theorem suf_frzL : ∀ (l : List V) (m : Hp), Suf m (l.foldl frz1 m)
  | [], m => Suf.refl _
  | v :: l, m => (suf_frz1 m v).trans (suf_frzL l _)
theorem suf_frz (m : Hp) (v : V) : Suf m (frz m v) := by cases v <;> simp only [frz] <;> first | exact suf_frz1 _ _ | exact suf_frzL _ _
theorem suf_frzF : ∀ (l : List V) (m : Hp), Suf m (l.foldl frz m)
  | [], m => Suf.refl _
  | v :: l, m => (suf_frz m v).trans (suf_frzF l _)
theorem suf_but (outs : List (Nat × Bx)) (args : List V) (m : Hp) : Suf m (frzBut outs args m) := by
  unfold frzBut
  generalize args.zipIdx = l
  induction l generalizing m with
  | nil => exact Suf.refl _
  | cons q l ih =>
    simp only [List.foldl_cons]
    refine Suf.trans ?_ (ih _)
    split
    · exact Suf.refl _
    · exact suf_frz _ _
theorem suf_outs {offs : List (Nat × Nat)} {args : List V} : ∀ (outs : List (Nat × Bx)) (used : List Nat) (m m1 : Hp), outsH args offs used outs m = some m1 → Suf m m1
  | [], used, m, m1, h => by simp only [outsH, Option.some.injEq] at h; subst h; exact Suf.refl _
  | (i, x) :: r, used, m, m1, h => by
    simp only [outsH] at h
    split at h
    · split at h
      · split at h
        · cases h
        split at h
        · split at h
          · exact ((Suf.refl _).cons _).trans (suf_outs r _ _ _ h)
          · cases h
        · cases h
      · split at h
        · cases h
        split at h
        · split at h
          · exact ((Suf.refl _).cons _).trans (suf_outs r _ _ _ h)
          · cases h
        · cases h
      · cases h
    · split at h
      · split at h
        · split at h
          · cases h
          split at h
          · split at h
            · split at h
              · exact ((Suf.refl _).cons _).trans (suf_outs r _ _ _ h)
              · cases h
            · cases h
          · cases h
        · cases h
      · cases h
theorem suf_add : ∀ (bs : List Bx) (base k : Nat) (m : Hp), Suf m (addBoxes base k bs m)
  | [], _, _, _ => Suf.refl _
  | b :: bs, base, k, m => ((Suf.refl _).cons _).trans (suf_add bs base (k + 1) _)

theorem touched_ok {m m' : Hp} (h : Suf m m') {b : Nat} (hb : (touched m m').contains b = false) : m'.at b = m.at b := by
  obtain ⟨p, rfl⟩ := h
  have e : touched m (p ++ m) = p.map (·.1) := by simp [touched]
  rw [e] at hb
  induction p with
  | nil => rfl
  | cons x p ih =>
    simp only [List.map_cons, List.contains_cons, Bool.or_eq_false_iff] at hb
    rw [List.cons_append]
    obtain ⟨c, o⟩ := x
    rw [Hp.at_cons, if_neg (by intro e; subst e; simp at hb), ih hb.2 (by simp [touched])]
end Go.E

set_option linter.unusedVariables false
namespace Go.E
open Go Go.RowKit

/-- Operations that only read. -/
def passive : Op → Bool
  | .move _ => true
  | .assign _ => true
  | .pick _ _ _ => true
  | .build _ _ => true
  | .nilCheck _ => true
  | .binOp _ _ _ _ _ => true
  | .unOp _ _ _ => true
  | .fieldAddr _ _ _ => true
  | .field _ _ _ => true
  | .index _ _ _ => true
  | .extract _ _ => true
  | .makeFunc _ _ _ => true
  | .load _ _ => true
  | .indexAddr _ _ _ => true
  | .call c => match c.callee with
    | .builtin .len => true
    | .builtin .min => true
    | .builtin .max => true
    | _ => false
  | _ => false

section
variable {E : Env} {ρ : Type} {s s2 : St}

theorem names_at {m2 : Hp} {o : Op} (ho : readsM o = true) (h : ∀ b ∈ namesO E s o, m2.at b = s.m.at b) {x : Operand} (hx : x ∈ o.operands.toList) {b : Nat} (hb : b ∈ namesV (opnd E s x)) : m2.at b = s.m.at b :=
  h b (by unfold namesO; rw [if_pos ho]; exact List.mem_flatMap.2 ⟨x, hx, hb⟩)

theorem bi_min {m1 : Hp} (ts : List Nat) (xs : List V) (m2 : Hp) (b1 b2 : Nat) (K : V → Hp → Option ρ) : builtinK E .min ts xs b2 m2 K = builtinK E .min ts xs b1 m1 (fun v _ => K v m2) := by
  unfold builtinK
  split <;> simp_all

theorem bi_max {m1 : Hp} (ts : List Nat) (xs : List V) (m2 : Hp) (b1 b2 : Nat) (K : V → Hp → Option ρ) : builtinK E .max ts xs b2 m2 K = builtinK E .max ts xs b1 m1 (fun v _ => K v m2) := by
  unfold builtinK
  split <;> simp_all

theorem bi_len {m1 : Hp} (ts : List Nat) (xs : List V) {m2 : Hp} (hx : ∀ x, xs = [x] → ∀ b ∈ namesV x, m2.at b = m1.at b) (b1 b2 : Nat) (K : V → Hp → Option ρ) : builtinK E .len ts xs b2 m2 K = builtinK E .len ts xs b1 m1 (fun v _ => K v m2) := by
  cases ts with
  | nil => simp [builtinK]
  | cons t ts =>
    match xs, hx with
    | [], _ => simp [builtinK]
    | [x], hx =>
      simp only [builtinK]
      cases x with
      | arr b => simp only [hx (.arr b) rfl b (by simp [namesV])]
      | val τ y => cases τ <;> rfl
      | _ => rfl
    | _ :: _ :: _, _ => simp [builtinK]

theorem opK_read {o : Op} (hp : passive o = true) (m2 : Hp) (h : ∀ b ∈ namesO E s o, m2.at b = s.m.at b) (b1 b2 : Nat) (K : V → Hp → Option ρ) :
    opK E o b2 { s with m := m2 } K = opK E o b1 s (fun v _ => K v m2) := by
  cases o <;> simp only [passive] at hp <;> first | (cases hp; done) | skip
  case load t x =>
    have hx : ∀ {b}, b ∈ namesV (opnd E s x) → m2.at b = s.m.at b := fun hb => names_at rfl h (by simp [Op.operands]) hb
    have e : opnd E { s with m := m2 } x = opnd E s x := by cases x <;> rfl
    simp only [opK, e]
    cases he : opnd E s x with
    | ptr b off => rw [he] at hx; simp only [hx (b := b) (by simp [namesV])]; rfl
    | ep b i off => rw [he] at hx; simp only [hx (b := b) (by simp [namesV])]; rfl
    | _ => rfl
  case indexAddr t x i =>
    have hx : ∀ {b}, b ∈ namesV (opnd E s x) → m2.at b = s.m.at b := fun hb => names_at rfl h (by simp [Op.operands]) hb
    have e : opnd E { s with m := m2 } x = opnd E s x := by cases x <;> rfl
    have e2 : opnd E { s with m := m2 } i = opnd E s i := by cases i <;> rfl
    simp only [opK, e, e2]
    cases he : opnd E s x with
    | arr b => rw [he] at hx; simp only [hx (b := b) (by simp [namesV])]
    | val τ y => cases τ <;> rfl
    | _ => rfl
  case call c =>
    have e : c.args.toList.map (opnd E { s with m := m2 }) = c.args.toList.map (opnd E s) := List.map_congr_left fun x _ => by cases x <;> rfl
    split at hp
    · rename_i hc
      simp only [opK, hc, e]
      have hx : ∀ {x b}, c.args.toList.map (opnd E s) = [x] → b ∈ namesV x → m2.at b = s.m.at b := fun {x b} hl hb => by
        obtain ⟨p, hp, rfl⟩ := list_one hl
        exact names_at rfl h (by simp [Op.operands, Call.operands, hc, hp]) hb
      generalize c.args.toList.map (opnd E s) = xs at hx
      exact bi_len _ _ (fun x e b hb => hx e hb) _ _ _
    · rename_i hc
      simp only [opK, hc, e]
      exact bi_min _ _ _ _ _ _
    · rename_i hc
      simp only [opK, hc, e]
      exact bi_max _ _ _ _ _ _
    · cases hp
  case makeFunc fn a b => cases fn <;> rfl
  all_goals rfl
end

section
variable {P : Program} {E : Env} {s s2 : St} {v : V} {m' : Hp}

theorem passive_m (hE : E.ok) {o : Op} (hp : passive o = true) {b : Nat} (hf : opF E o b s = some (v, m')) : m' = s.m := by
  have e := opK_read (E := E) (s := s) hp s.m (fun _ _ => rfl) b b (fun v m => some (v, m))
  have e1 : opF E o b s = opK E o b s (fun v _ => some (v, s.m)) := e
  rw [opK_eq hE, hf] at e1
  simp at e1; exact e1

/-- What only reads reads the same where what it names is the same. -/
theorem passive_local (hE : E.ok) {o : Op} (hp : passive o = true) {b : Nat} (hf : opF E o b s = some (v, m')) (b2 : Nat) (ho : ∀ x ∈ o.operands.toList, opnd E s2 x = opnd E s x) (hn : ∀ b ∈ namesO E s o, s2.m.at b = s.m.at b) :
    opF E o b2 s2 = some (v, s2.m) := by
  have e1 : opF E o b2 s2 = opF E o b2 { s with m := s2.m } := opF_congr (E := E) (s2 := s2) (s := { s with m := s2.m }) (fun x hx => by rw [ho x hx]; cases x <;> rfl) rfl b2
  rw [e1]
  have e2 := opK_read (E := E) (s := s) hp s2.m hn b b2 (fun v m => some (v, m))
  rw [opK_eq hE o b s, hf] at e2
  exact e2

theorem suf_op (hE : EnvC P E) {o : Op} {b : Nat} (hf : opF E o b s = some (v, m')) : Suf s.m m' := by
  cases hp : passive o with
  | true => rw [passive_m hE.ok.nat hp hf]; exact Suf.refl _
  | false =>
    cases o <;> simp only [passive] at hp <;> first | (cases hp; done) | skip
    case alloc t =>
      simp only [opF, opK] at hf
      obtain ⟨l, _, hf⟩ := wT_some hf
      obtain ⟨rfl, rfl⟩ := ok_pair hf
      exact (Suf.refl _).cons _
    case box t x =>
      simp only [opF, opK] at hf
      obtain ⟨l, _, hf⟩ := wT_some hf
      split at hf
      · obtain ⟨rfl, rfl⟩ := ok_pair hf
        exact (Suf.refl _).cons _
      · cases hf
    case buildSlice t n ps =>
      simp only [opF, opK] at hf
      obtain ⟨_, _, l, _, _, _, hf⟩ := wE_some hf
      split at hf
      · cases hf
      obtain ⟨z, _, hf⟩ := zeroD_some hf
      split at hf
      · obtain ⟨rfl, rfl⟩ := ok_pair hf
        exact (suf_frzF _ _).cons _
      · cases hf
    case store t x y =>
      simp only [opF, opK] at hf
      obtain ⟨l, _, hf⟩ := wT_some hf
      split at hf
      · split at hf
        · split at hf
          · obtain ⟨rfl, rfl⟩ := ok_pair hf
            exact (Suf.refl _).cons _
          · cases hf
        · cases hf
      · split at hf
        · split at hf
          · split at hf
            · cases hf
            obtain ⟨z, _, hf⟩ := bindO_some hf
            split at hf
            · obtain ⟨rfl, rfl⟩ := ok_pair hf
              exact (suf_frz _ _).cons _
            · cases hf
          · cases hf
        · cases hf
      · cases hf
    case convert t u x =>
      simp only [opF, opK] at hf
      obtain ⟨ls, _, hf⟩ := wT_some hf
      obtain ⟨l, _, hf⟩ := wT_some hf
      split at hf
      · split at hf
        · obtain ⟨rfl, rfl⟩ := ok_pair hf; exact Suf.refl _
        · cases hf
      · obtain ⟨le, _, hf⟩ := wT_some hf
        split at hf
        · split at hf
          · obtain ⟨rfl, rfl⟩ := ok_pair hf; exact (Suf.refl _).cons _
          · cases hf
        · cases hf
      · split at hf
        · obtain ⟨le, _, hf⟩ := wT_some hf
          split at hf
          · split at hf
            · obtain ⟨rfl, rfl⟩ := ok_pair hf; exact Suf.refl _
            · cases hf
          · cases hf
        · cases hf
      · cases hf
    case slice t x lo hi mx =>
      cases mx with
      | some _ => simp [opF, opK] at hf
      | none =>
        simp only [opF, opK] at hf
        obtain ⟨l, _, hf⟩ := wT_some hf
        have wo : ∀ {y : Option Operand} {d : Int} {K : Int → Option (V × Hp)}, wOI E s y d K = some (v, m') → ∃ n, K n = some (v, m') := fun {y d K} h => by
          unfold wOI at h
          split at h
          · obtain ⟨k, n, _, h⟩ := wI_some h; exact ⟨n, h⟩
          · exact ⟨d, h⟩
        split at hf
        · split at hf
          · obtain ⟨_, hf⟩ := wo hf
            obtain ⟨_, hf⟩ := wo hf
            obtain ⟨_, hf⟩ := iteB_none hf
            obtain ⟨rfl, rfl⟩ := ok_pair hf; exact Suf.refl _
          · cases hf
        · obtain ⟨le, _, hf⟩ := wT_some hf
          split at hf
          · obtain ⟨_, hf⟩ := wo hf
            obtain ⟨_, hf⟩ := wo hf
            obtain ⟨_, hf⟩ := iteB_none hf
            obtain ⟨rfl, rfl⟩ := ok_pair hf; exact suf_frz _ _
          · cases hf
        · cases hf
    case makeSlice t x y =>
      simp only [opF, opK] at hf
      obtain ⟨_, _, l, _, _, _, hf⟩ := wE_some hf
      obtain ⟨z, _, hf⟩ := zeroD_some hf
      obtain ⟨_, n, _, hf⟩ := wI_some hf
      obtain ⟨_, k, _, hf⟩ := wI_some hf
      obtain ⟨_, hf⟩ := iteB_none hf
      obtain ⟨_, hf⟩ := iteB_none hf
      obtain ⟨rfl, rfl⟩ := ok_pair hf; exact (Suf.refl _).cons _
    case call c =>
      simp only [opF, opK] at hf
      split at hf
      · rename_i bi hc
        rw [hc] at hp
        obtain ⟨xs, hx⟩ : ∃ xs, c.args.toList.map (opnd E s) = xs := ⟨_, rfl⟩
        obtain ⟨ts, hts⟩ : ∃ ts, c.argTypes.toList = ts := ⟨_, rfl⟩
        rw [hx, hts] at hf
        unfold builtinK at hf
        split at hf
        · cases hp
        · obtain ⟨_, _, l, _, _, _, hf⟩ := wE_some hf
          obtain ⟨_, _, l2, _, _, _, hf⟩ := wE_some hf
          split at hf
          · split at hf
            · obtain ⟨_, hf⟩ := iteB_none hf
              obtain ⟨rfl, rfl⟩ := ok_pair hf; exact (Suf.refl _).cons _
            · split at hf
              · split at hf
                · obtain ⟨_, hf⟩ := iteB_none hf
                  obtain ⟨rfl, rfl⟩ := ok_pair hf; exact ((Suf.refl _).cons _).cons _
                · cases hf
              · cases hf
            · cases hf
          · cases hf
        · cases hp
        · cases hp
        · cases hp
        · cases hf
      · split at hf
        · unfold callK at hf
          split at hf
          · rename_i c' hc'
            obtain ⟨avs, res, _, _, hK⟩ := hE.ctr _ c' hc' _ _ _ _ hf
            split at hK
            · split at hK
              · rename_i m2 ho
                obtain ⟨rfl, rfl⟩ := ok_pair hK
                refine (Suf.trans ?_ (suf_outs _ _ _ _ ho)).trans (suf_add _ _ _ _)
                split
                · exact suf_but _ _ _
                · exact Suf.refl _
              · cases hK
            · cases hK
          · cases hf
        · cases hf
      · cases hf
    all_goals (simp [opF, opK] at hf)

theorem rowsOf_names {m m2 : Hp} {τ : Ty} {v : V} (h : ∀ b ∈ namesV v, m2.at b = m.at b) : rowsOf m2 τ v = rowsOf m τ v := by
  cases v with
  | arr b => simp only [rowsOf, h b (by simp [namesV])]
  | val σ x => cases σ <;> rfl
  | _ => rfl

theorem touched_nil {m m' : Hp} (h : Suf m m') (ht : touched m m' = []) : m' = m := by
  obtain ⟨p, rfl⟩ := h
  have e : touched m (p ++ m) = p.map (·.1) := by simp [touched]
  rw [e, List.map_eq_nil_iff] at ht
  subst ht; rfl

theorem frz_same {m m2 : Hp} {v : V} {τ : Ty} {r : List (D τ)} (hr : rowsOf m τ v = some r) (h : ∀ b ∈ namesV v, m2.at b = m.at b) (hf : frz m v = m) : frz m2 v = m2 := by
  cases v with
  | arr b =>
    have h1 := h b (by simp [namesV])
    simp only [frz, frz1] at hf ⊢
    rw [h1]
    split
    · rename_i σ l hb
      rw [hb] at hf
      have := congrArg List.length hf
      simp at this
    · rfl
  | agg cs => simp [rowsOf] at hr
  | tup cs => simp [rowsOf] at hr
  | _ => rfl

/-- What has moved no memory reads the same elsewhere. -/
theorem quiet_local (hE : EnvC P E) {o : Op} (hq : quietOp o = true) {b : Nat} (hf : opF E o b s = some (v, m')) (ht : touched s.m m' = []) : m' = s.m ∧
    ∀ (s2 : St) (b2 : Nat), (∀ x ∈ o.operands.toList, opnd E s2 x = opnd E s x) → (∀ c ∈ namesO E s o, s2.m.at c = s.m.at c) → opF E o b2 s2 = some (v, s2.m) := by
  have hm := touched_nil (suf_op hE hf) ht
  refine ⟨hm, fun s2 b2 ho hn => ?_⟩
  subst hm
  cases o <;> simp only [quietOp] at hq <;> first | (cases hq; done) | skip
  case slice t x lo hi mx =>
    cases mx with
    | some _ => simp [opF, opK] at hf
    | none =>
      have hx := ho x (by simp [Op.operands])
      have hnx : ∀ c ∈ namesV (opnd E s x), s2.m.at c = s.m.at c := fun c hc => names_at (m2 := s2.m) rfl hn (x := x) (by simp [Op.operands]) hc
      have hl : ∀ d (K : Int → Option (V × Hp)), wOI E s2 lo d K = wOI E s lo d K := fun d K => by
        cases lo with
        | none => rfl
        | some y => simp only [wOI, ho y (by simp [Op.operands])]
      have hh : ∀ d (K : Int → Option (V × Hp)), wOI E s2 hi d K = wOI E s hi d K := fun d K => by
        cases hi with
        | none => rfl
        | some y => simp only [wOI, ho y (by simp [Op.operands])]
      simp only [opF, opK] at hf ⊢
      obtain ⟨l, hl1, hf⟩ := wT_some hf
      simp only [wT, hl1, hx, hl, hh]
      split at hf
      · rename_i hk
        try simp only [hk]
        split at hf
        · rename_i a0 ha0
          have fin : ∀ (z : V) (c : Bool), iteB c (some (z, s.m)) none = some (v, s.m) → iteB c (some (z, s2.m)) none = some (v, s2.m) := fun z c h => by
            obtain ⟨hc, h⟩ := iteB_none h
            obtain ⟨rfl, h2⟩ := ok_pair h
            rw [hc]; rfl
          unfold wOI at hf ⊢
          split at hf
          · obtain ⟨k1, n1, e1, hf⟩ := wI_some hf
            simp only [e1, wI]
            split at hf
            · obtain ⟨k2, n2, e2, hf⟩ := wI_some hf
              simp only [e2]
              exact fin _ _ hf
            · exact fin _ _ hf
          · split at hf
            · obtain ⟨k2, n2, e2, hf⟩ := wI_some hf
              simp only [e2, wI]
              exact fin _ _ hf
            · exact fin _ _ hf
        · cases hf
      · rename_i e hk
        obtain ⟨le, hle, hf⟩ := wT_some hf
        simp only [hle, rowsOf_names hnx]
        split at hf
        · rename_i r hr
          try simp only [hr]
          have fin : ∀ (z : V) (c : Bool), iteB c (some (z, frz s.m (opnd E s x))) none = some (v, s.m) → iteB c (some (z, frz s2.m (opnd E s x))) none = some (v, s2.m) := fun z c h => by
            obtain ⟨hc, h⟩ := iteB_none h
            obtain ⟨rfl, h2⟩ := ok_pair h
            rw [hc, frz_same hr hnx h2]; rfl
          unfold wOI at hf ⊢
          split at hf
          · obtain ⟨k1, n1, e1, hf⟩ := wI_some hf
            simp only [e1, wI]
            split at hf
            · obtain ⟨k2, n2, e2, hf⟩ := wI_some hf
              simp only [e2]
              exact fin _ _ hf
            · exact fin _ _ hf
          · split at hf
            · obtain ⟨k2, n2, e2, hf⟩ := wI_some hf
              simp only [e2, wI]
              exact fin _ _ hf
            · exact fin _ _ hf
        · cases hf
      · cases hf
  case convert t u x =>
    have hx := ho x (by simp [Op.operands])
    have hnx : ∀ c ∈ namesV (opnd E s x), s2.m.at c = s.m.at c := fun c hc => names_at (m2 := s2.m) rfl hn (x := x) (by simp [Op.operands]) hc
    simp only [opF, opK] at hf ⊢
    obtain ⟨ls, hls, hf⟩ := wT_some hf
    obtain ⟨l, hl, hf⟩ := wT_some hf
    simp only [wT, hls, hl, hx]
    split at hf
    · rename_i k hk
      try simp only [hk]
      split at hf
      · rename_i e1
        obtain ⟨rfl, _⟩ := ok_pair hf
        simp only
      · cases hf
    · obtain ⟨le, hle, hf⟩ := wT_some hf
      split at hf
      · split at hf
        · obtain ⟨_, h2⟩ := ok_pair hf
          have := congrArg List.length h2
          simp at this
        · cases hf
      · cases hf
    · rename_i hk
      try simp only [hk]
      split at hf
      · rename_i e hk2
        obtain ⟨le, hle, hf⟩ := wT_some hf
        simp only [hle]
        split at hf
        · rename_i hk3
          simp only [rowsOf_names hnx]
          split at hf
          · rename_i r hr
            obtain ⟨rfl, _⟩ := ok_pair hf
            simp only
          · cases hf
        · cases hf
      · cases hf
    · cases hf
end
end Go.E

set_option linter.unusedVariables false
namespace Go.E
open Go Go.RowKit

/-! Regions whose order is drawn. -/

def wantE (ops : Array Oper) (o : Oper) (s : St) : Option Bool := match o.guard with
  | none => some true
  | some (j, want) => match (ops[j]?).bind (·.dst) with
    | some d => match s.get d with
      | .val .bool b => some (b == want)
      | .tup [] => some false
      | _ => none
    | none => none

def effE (E : Env) (ops : Array Oper) (base i : Nat) (o : Oper) (s : St) : Option (V × Hp) := match wantE ops o s with
  | some true => opF E o.op (base + stride * i) s
  | some false => some (.tup [], s.m)
  | none => none

def ProtP (prot : List (Nat × List Nat)) (o : Oper) (m m' : Hp) : Prop := ∀ p ∈ prot, (∃ e ∈ o.after, Region.binds .any e = true ∧ e.on = p.1) ∨ ∀ b ∈ p.2, m'.at b = m.at b

def anyE (E : Env) (ops : Array Oper) (base : Nat) (T : St → Prop) (prot : List (Nat × List Nat)) : Nat → Array Bool → St → Prop
  | 0, L, s => Region.ready .any ops L = [] ∧ T s
  | f + 1, L, s => (Region.ready .any ops L = [] → T s) ∧ ∀ i ∈ Region.ready .any ops L, ∃ o v m', ops[i]? = some o ∧ effE E ops base i o s = some (v, m') ∧ ProtP prot o s.m m' ∧
      anyE E ops base T prot f (L.setIfInBounds i true) ({ s with m := m' }.put o.dst v)

section
variable {P : Program} {E : Env} {ops : Array Oper} {base : Nat} {T : St → Prop} {s s2 : St} {v : V} {m' : Hp}

theorem opnd_congr {o : Oper} (h : ∀ t ∈ o.looksAt ops, s2.get t = s.get t) : ∀ x ∈ o.op.operands.toList, opnd E s2 x = opnd E s x := fun x hx => by
  cases x with
  | tmp t => exact h t (List.mem_append_left _ (List.mem_filterMap.2 ⟨.tmp t, hx, rfl⟩))
  | _ => rfl

theorem namesO_congr {o : Op} (h : ∀ x ∈ o.operands.toList, opnd E s2 x = opnd E s x) : namesO E s2 o = namesO E s o := by
  unfold namesO
  split
  · rw [List.flatMap_def, List.flatMap_def]
    congr 1
    exact List.map_congr_left fun x hx => by rw [h x hx]
  · rfl

theorem want_congr {o : Oper} (h : ∀ t ∈ o.looksAt ops, s2.get t = s.get t) : wantE ops o s2 = wantE ops o s := by
  unfold wantE
  cases hg : o.guard with
  | none => rfl
  | some gw =>
    obtain ⟨j, want⟩ := gw
    cases hd : (ops[j]?).bind (·.dst) with
    | none => simp only [hd]
    | some d =>
      have := h d (List.mem_append_right _ (by simp [hg, hd]))
      simp only [hd, this]

theorem eff_congr {i : Nat} {o : Oper} (h : ∀ t ∈ o.looksAt ops, s2.get t = s.get t) (hm : s2.m = s.m) : effE E ops base i o s2 = effE E ops base i o s := by
  unfold effE
  rw [want_congr h]
  split
  · exact opF_congr (opnd_congr h) hm _
  · rw [hm]
  · rfl

theorem Eqv.refl (s : St) : Eqv s s := ⟨rfl, fun _ => rfl⟩
theorem Eqv.symm {s s' : St} (h : Eqv s s') : Eqv s' s := ⟨h.1.symm, fun t => (h.2 t).symm⟩
theorem Eqv.trans {s s' s'' : St} (h : Eqv s s') (k : Eqv s' s'') : Eqv s s'' := ⟨h.1.trans k.1, fun t => (h.2 t).trans (k.2 t)⟩
theorem Eqv.put {s s' : St} (h : Eqv s s') (m : Hp) (d : Option Nat) (v : V) : Eqv ({ s with m := m }.put d v) ({ s' with m := m }.put d v) :=
  ⟨by rw [put_m, put_m], fun t => by rw [get_put, get_put]; split; · rfl
                                     · exact h.2 t⟩

theorem anyE_eqv (hT : ∀ s s', Eqv s s' → T s → T s') {prot : List (Nat × List Nat)} : ∀ (f : Nat) (L : Array Bool) {s s' : St}, Eqv s s' → anyE E ops base T prot f L s → anyE E ops base T prot f L s'
  | 0, L, s, s', e, h => ⟨h.1, hT _ _ e h.2⟩
  | f + 1, L, s, s', e, h => ⟨fun hr => hT _ _ e (h.1 hr), fun i hi => by
      obtain ⟨o, v, m', h1, h2, h3, h4⟩ := h.2 i hi
      refine ⟨o, v, m', h1, ?_, e.1 ▸ h3, anyE_eqv hT f _ (e.put m' o.dst v) h4⟩
      rw [eff_congr (fun t _ => (e.2 t).symm) e.1.symm]; exact h2⟩

theorem anyE_weak {prot prot' : List (Nat × List Nat)} (hp : ∀ p ∈ prot', p ∈ prot ∨ p.2 = []) : ∀ (f : Nat) (L : Array Bool) {s : St}, anyE E ops base T prot f L s → anyE E ops base T prot' f L s
  | 0, L, s, h => h
  | f + 1, L, s, h => ⟨h.1, fun i hi => by
      obtain ⟨o, v, m', h1, h2, h3, h4⟩ := h.2 i hi
      exact ⟨o, v, m', h1, h2, fun p hm => (hp p hm).elim (h3 p) (fun e => .inr fun b hb => by rw [e] at hb; cases hb), anyE_weak hp f _ h4⟩⟩

/-- An operation that comes to the same wherever what it looks at is the same. -/
def Steady (E : Env) (ops : Array Oper) (base i : Nat) (o : Oper) (s : St) (v : V) : Prop :=
  ∀ s2 : St, (∀ t ∈ o.looksAt ops, s2.get t = s.get t) → (wantE ops o s = some true → ∀ b ∈ namesO E s o.op, s2.m.at b = s.m.at b) → effE E ops base i o s2 = some (v, s2.m)

theorem Steady.at {i : Nat} {o : Oper} (h : Steady E ops base i o s v) : effE E ops base i o s = some (v, s.m) := h s (fun _ _ => rfl) (fun _ _ _ => rfl)

theorem eff_steady (hE : EnvC P E) {i : Nat} {o : Oper} {early : Bool} (he : early = true) (hp : passive o.op = true ∨ quietOp o.op = true ∧ (wantE ops o s = some true → quietOk early o s.m m' = true)) (hf : effE E ops base i o s = some (v, m')) : m' = s.m ∧
    Steady E ops base i o s v := by
  unfold effE at hf
  split at hf
  · rename_i hw
    rcases hp with hp | ⟨hp, hq⟩
    · refine ⟨passive_m hE.ok.nat hp hf, fun s2 h1 h2 => ?_⟩
      unfold effE
      rw [want_congr h1, hw]
      exact passive_local hE.ok.nat hp hf _ (opnd_congr h1) (h2 hw)
    · have hq := hq hw
      unfold quietOk at hq
      rw [he, hp] at hq
      simp only [Bool.and_self, Bool.not_true, Bool.false_or, List.isEmpty_iff] at hq
      obtain ⟨k1, k2⟩ := quiet_local hE hp hf hq
      refine ⟨k1, fun s2 h1 h2 => ?_⟩
      unfold effE
      rw [want_congr h1, hw]
      exact k2 s2 _ (opnd_congr h1) (h2 hw)
  · rename_i hw
    obtain ⟨rfl, rfl⟩ := ok_pair hf
    refine ⟨rfl, fun s2 h1 h2 => ?_⟩
    unfold effE
    rw [want_congr h1, hw]
  · cases hf

theorem St.eta_m (s : St) : ({ s with m := s.m } : St) = s := rfl

/-- What only reads, and is apart from all that may come ahead of it, may be taken first. -/
theorem anyE_first (hT : ∀ s s', Eqv s s' → T s → T s') {i : Nat} {oi : Oper} (hi : ops[i]? = some oi) {prot : List (Nat × List Nat)} {nm : List Nat} :
    ∀ (f : Nat) (L : Array Bool) (s : St), (∀ j oj, ops[j]? = some oj → j ≠ i → L.getD j true = false → (∀ e ∈ oj.after, Region.binds .any e = true → e.on ≠ i) → oi.apart ops oj = true) →
      i ∈ Region.ready .any ops L → Steady E ops base i oi s v → (wantE ops oi s = some true → ∀ b ∈ namesO E s oi.op, b ∈ nm) → anyE E ops base T ((i, nm) :: prot) f (L.setIfInBounds i true) (s.put oi.dst v) →
      anyE E ops base T prot (f + 1) L s
  | 0, L, s, hfree, hr, hv, hnm, H => by
    refine ⟨fun h => (by rw [h] at hr; cases hr), fun j hj => ?_⟩
    by_cases hji : j = i
    · subst hji; exact ⟨oi, v, s.m, hi, hv.at, fun p _ => .inr fun b _ => rfl, anyE_weak (fun p hp => .inl (List.mem_cons_of_mem _ hp)) 0 _ H⟩
    · have := ready_mono hj hji
      rw [H.1] at this
      cases this
  | f + 1, L, s, hfree, hr, hv, hnm, H => by
    refine ⟨fun h => (by rw [h] at hr; cases hr), fun j hj => ?_⟩
    by_cases hji : j = i
    · subst hji; exact ⟨oi, v, s.m, hi, hv.at, fun p _ => .inr fun b _ => rfl, anyE_weak (fun p hp => .inl (List.mem_cons_of_mem _ hp)) (f + 1) _ H⟩
    · obtain ⟨oj, u, m', g1, g2, g3, g4⟩ := H.2 j (ready_mono hj hji)
      obtain ⟨hjun, oj', hoj, hall⟩ := mem_ready.1 hj
      rw [g1] at hoj; cases hoj
      have hnot : ∀ e ∈ oj.after, Region.binds .any e = true → e.on ≠ i := fun e he hb heq => by
        have h1 := hall e he hb
        have h0 := (mem_ready.1 hr).1
        rw [heq] at h1
        rcases Nat.lt_or_ge i L.size with h' | h'
        · simp [h'] at h0 h1; rw [h0] at h1; cases h1
        · simp [Array.getElem?_eq_none h'] at h1
      obtain ⟨a1, a2, a3⟩ := Oper.apart_spec (hfree j oj g1 hji hjun hnot)
      have hgi : ∀ t ∈ oj.looksAt ops, (s.put oi.dst v).get t = s.get t := fun t ht => by
        rw [get_put, if_neg (fun e => a1 t e ht)]
      rw [eff_congr hgi (put_m _ _ _)] at g2
      rw [put_m] at g3
      have hun : ∀ b ∈ nm, m'.at b = s.m.at b := by
        rcases g3 (i, nm) (by simp) with ⟨e, he, hb, hon⟩ | h
        · exact absurd hon (hnot e he hb)
        · exact h
      refine ⟨oj, u, m', g1, g2, fun p hp => g3 p (List.mem_cons_of_mem _ hp), ?_⟩
      have hgj : ∀ t ∈ oi.looksAt ops, ({ s with m := m' }.put oj.dst u).get t = s.get t := fun t ht => by
        rw [get_put, if_neg (fun e => a3 t e ht)]; rfl
      refine anyE_first (nm := nm) hT hi f (L.setIfInBounds j true) ({ s with m := m' }.put oj.dst u) (fun k ok hk hki hunl hno => ?_) (ready_mono hr (Ne.symm hji)) ?_ (fun hw b hb => ?_) ?_
      · refine hfree k ok hk hki ?_ hno
        by_cases hjk : j = k
        · subst hjk; exact hjun
        · rw [getD_set_ne true hjk] at hunl; exact hunl
      · intro s2 h1 h2
        refine hv s2 (fun t ht => (h1 t ht).trans (hgj t ht)) (fun hw b hb => ?_)
        have hw' : wantE ops oi ({ s with m := m' }.put oj.dst u) = some true := by rw [want_congr hgj]; exact hw
        have hb' : b ∈ namesO E ({ s with m := m' }.put oj.dst u) oi.op := by rw [namesO_congr (opnd_congr hgj)]; exact hb
        rw [h2 hw' b hb', put_m]
        exact hun b (hnm hw b hb)
      · refine hnm (by rw [want_congr hgj] at hw; exact hw) b ?_
        rw [namesO_congr (opnd_congr hgj)] at hb; exact hb
      · rw [Array.setIfInBounds_comm _ _ hji]
        refine anyE_eqv hT _ _ ⟨?_, fun t => ?_⟩ g4
        · rw [put_m, put_m, put_m]
        · rw [get_put, get_put]
          show (if _ then _ else (s.put oi.dst v).get t) = if _ then _ else St.get (St.put _ _ _) t
          rw [get_put, get_put]
          by_cases e1 : oj.dst = some t
          · rw [if_pos e1, if_neg (fun e => a2 t e e1), if_pos e1]
          · rw [if_neg e1, if_neg e1]; rfl

/-- The orders are such as may be taken, and no other may. 'q': what is ready has been looked at. -/
def schedT (ops : Array Oper) : Sc → Nat → Bool → Array Bool → Bool
  | .done, f, q, L => decide (f = 0) && !q && (Region.ready .any ops L).isEmpty
  | .one i early r, f, q, L => match f with
    | 0 => false
    | f + 1 => (match early with
      | false => q || decide (Region.ready .any ops L = [i])
      | true => !q && (Region.ready .any ops L).contains i && (match ops[i]? with | some o => passive o.op || quietOp o.op | none => false) && Region.free .any ops L i) && schedT ops r f false (L.setIfInBounds i true)
  | .or a b, f, q, L => (q || decide (Region.ready .any ops L = a.heads ++ b.heads)) && decide (f ≠ 0) && schedT ops a f true L && schedT ops b f true L

def Sc.ofList : List (Nat × Bool) → Sc
  | [] => .done
  | (i, e) :: r => .one i e (Sc.ofList r)

theorem lin_ofList : ∀ l : List (Nat × Bool), (Sc.ofList l).lin = [l]
  | [] => rfl
  | (i, e) :: r => by simp only [Sc.ofList, Sc.lin, lin_ofList r]; rfl

theorem lin_ne : ∀ t : Sc, t.lin ≠ []
  | .done => by simp [Sc.lin]
  | .one i e r => by simp only [Sc.lin, ne_eq, List.map_eq_nil_iff]; exact lin_ne r
  | .or a b => by simp only [Sc.lin, ne_eq, List.append_eq_nil_iff]; exact fun h => lin_ne a h.1

def schedOk (ops : Array Oper) (ord : List (Nat × Bool)) : Bool := schedT ops (Sc.ofList ord) ops.size false (Array.replicate ops.size false)

theorem protOk_ok {prot : List (Nat × List Nat)} {o : Oper} {m m' : Hp} (hs : Suf m m') (h : protOk prot o m m' = true) : ProtP prot o m m' := fun p hp => by
  unfold protOk at h
  rw [List.all_eq_true] at h
  have := h p hp
  rw [Bool.or_eq_true] at this
  rcases this with h | h
  · obtain ⟨e, he, hb⟩ := Array.any_eq_true'.1 h
    simp only [Bool.and_eq_true, beq_iff_eq] at hb
    exact .inl ⟨e, he, hb.1, hb.2⟩
  · rw [List.all_eq_true] at h
    exact .inr fun b hb => touched_ok hs (by have := h b hb; simpa using this)

/-- One operation of a region, out of 'drawK'. -/
theorem drawK_step (hE : EnvC P E) {ρ : Type} {K : St → Option ρ} {r : ρ} {i : Nat} {early : Bool} {l : List (Nat × Bool)} {prot : List (Nat × List Nat)} (h : drawK E ops ((i, early) :: l) prot base s K = some r) :
    ∃ o v m' s0 prot', ops[i]? = some o ∧ Eqv s s0 ∧ effE E ops base i o s = some (v, m') ∧ ProtP prot o s.m m' ∧ (wantE ops o s = some true → quietOk early o s.m m' = true) ∧
      (prot' = prot ∧ (early = false ∨ wantE ops o s = some false) ∨ prot' = (i, namesO E s o.op) :: prot ∧ early = true) ∧
      ∀ l', drawK E ops ((i, early) :: l') prot base s K = drawK E ops l' prot' base ({ s0 with m := m' }.put o.dst v) K := by
  simp only [drawK] at h ⊢
  split at h
  · cases h
  rename_i o ho
  have doit : ∀ s0 : St, Eqv s s0 → wantE ops o s = some true → ∀ (Z : List (Nat × Bool) → Option ρ),
      (∀ l', Z l' = opK E o.op (base + stride * i) s0 fun v m => if (protOk prot o s.m m && quietOk early o s.m m) = true then drawK E ops l' (if early = true then (i, namesO E s o.op) :: prot else prot) base ({ s0 with m := m }.put o.dst v) K else none) → Z l = some r →
      ∃ o' v m' s0 prot', ops[i]? = some o' ∧ Eqv s s0 ∧ effE E ops base i o' s = some (v, m') ∧ ProtP prot o' s.m m' ∧ (wantE ops o' s = some true → quietOk early o' s.m m' = true) ∧
        (prot' = prot ∧ (early = false ∨ wantE ops o' s = some false) ∨ prot' = (i, namesO E s o'.op) :: prot ∧ early = true) ∧
        ∀ l', Z l' = drawK E ops l' prot' base ({ s0 with m := m' }.put o'.dst v) K := fun s0 he hw Z hZ hr => by
    have hr' := hr
    rw [hZ, opK_eq hE.ok.nat, Option.bind_eq_some_iff] at hr'
    obtain ⟨⟨v, m'⟩, h1, h2⟩ := hr'
    simp only at h2
    split at h2
    case isFalse => cases h2
    rename_i hprot
    have hprot' := hprot
    rw [Bool.and_eq_true] at hprot
    have h1' : opF E o.op (base + stride * i) s = some (v, m') := by
      rw [← h1]; exact opF_congr (fun x _ => by cases x <;> first | rfl | exact he.2 _) he.1 _
    refine ⟨o, v, m', s0, (if early = true then (i, namesO E s o.op) :: prot else prot), ho, he, ?_, protOk_ok (suf_op hE h1') hprot.1, fun _ => hprot.2, ?_, fun l' => ?_⟩
    · unfold effE; rw [hw]; exact h1'
    · cases early with
      | true => exact .inr ⟨by simp, rfl⟩
      | false => exact .inl ⟨by simp, .inl rfl⟩
    · rw [hZ, opK_eq hE.ok.nat, h1]
      simp only [Option.bind_some, hprot', if_true]
  have skip : ∀ s0 : St, Eqv s s0 → wantE ops o s = some false → ∀ (Z : List (Nat × Bool) → Option ρ), (∀ l', Z l' = drawK E ops l' prot base (s0.put o.dst (.tup [])) K) →
      ∃ o' v m' s0 prot', ops[i]? = some o' ∧ Eqv s s0 ∧ effE E ops base i o' s = some (v, m') ∧ ProtP prot o' s.m m' ∧ (wantE ops o' s = some true → quietOk early o' s.m m' = true) ∧
        (prot' = prot ∧ (early = false ∨ wantE ops o' s = some false) ∨ prot' = (i, namesO E s o'.op) :: prot ∧ early = true) ∧
        ∀ l', Z l' = drawK E ops l' prot' base ({ s0 with m := m' }.put o'.dst v) K := fun s0 he hw Z hZ => by
    refine ⟨o, .tup [], s.m, s0, prot, ho, he, by unfold effE; rw [hw], fun p _ => .inr fun b _ => rfl, fun h => (by rw [hw] at h; cases h), .inl ⟨rfl, .inr hw⟩, fun l' => ?_⟩
    rw [he.1]; exact hZ l'

  split at h
  · rename_i hg
    try simp only [hg]
    exact doit s (Eqv.refl s) (by unfold wantE; rw [hg]) _ (fun l' => rfl) h
  · rename_i j want hg
    try simp only [hg]
    split at h
    · cases h
    rename_i oj hoj
    try simp only [hoj]
    split at h
    · cases h
    rename_i d hdj
    try simp only [hdj]
    have hw : wantE ops o s = match s.get d with | .val .bool b => some (b == want) | .tup [] => some false | _ => none := by
      unfold wantE; rw [hg]; simp only [hoj, Option.bind_some, hdj]
    split at h
    · rename_i b hb
      rw [hb] at hw
      try simp only [hb]
      split at h
      · rcases iteB_some h with ⟨rfl, h⟩ | ⟨rfl, h⟩
        · exact doit _ (eqv_bool hb) hw _ (fun l' => rfl) h
        · exact skip _ (eqv_bool hb) hw _ (fun l' => rfl)
      · rcases iteB_some h with ⟨rfl, h⟩ | ⟨rfl, h⟩
        · exact skip _ (eqv_bool hb) hw _ (fun l' => rfl)
        · exact doit _ (eqv_bool hb) hw _ (fun l' => rfl) h
    · rename_i hb
      rw [hb] at hw
      try simp only [hb]
      exact skip s (Eqv.refl s) hw _ (fun l' => rfl)
    · cases h
end
end Go.E

set_option linter.unusedVariables false
namespace Go.E
open Go Go.RowKit

section
variable {P : Program} {E : Env} {ops : Array Oper} {base : Nat} {s s2 : St} {v : V} {m' : Hp}

/-- What a region's end is asked for. -/
def EndT (ops : Array Oper) (base : Nat) {ρ : Type} (K : St → Option ρ) (r : ρ) (s : St) : Prop := ∃ s', Eqv s' s ∧ K { s' with n := base + stride * ops.size } = some r

theorem EndT.eqv {ρ : Type} {K : St → Option ρ} {r : ρ} : ∀ s s', Eqv s s' → EndT ops base K r s → EndT ops base K r s' := fun s s' e ⟨s'', h1, h2⟩ => ⟨s'', h1.trans e, h2⟩

/-- What is known of each operation that may come next. -/
def NextE (E : Env) (ops : Array Oper) (base : Nat) (T : St → Prop) (prot : List (Nat × List Nat)) (f : Nat) (L : Array Bool) (s : St) (i : Nat) : Prop :=
  ∃ o v m', ops[i]? = some o ∧ effE E ops base i o s = some (v, m') ∧ ProtP prot o s.m m' ∧ anyE E ops base T prot f (L.setIfInBounds i true) ({ s with m := m' }.put o.dst v)

theorem draw_any (hE : EnvC P E) {ρ : Type} {K : St → Option ρ} {r : ρ} : ∀ (t : Sc) (f : Nat) (q : Bool) (prot : List (Nat × List Nat)) (L : Array Bool) (s : St), schedT ops t f q L = true → (∀ l ∈ t.lin, drawK E ops l prot base s K = some r) →
    (q = false → anyE E ops base (EndT ops base K r) prot f L s) ∧ (q = true → ∀ i ∈ t.heads, ∃ f', f = f' + 1 ∧ NextE E ops base (EndT ops base K r) prot f' L s i)
  | .done, f, q, prot, L, s, hs, h => by
    simp only [schedT, Bool.and_eq_true, decide_eq_true_eq, List.isEmpty_iff, Bool.not_eq_true'] at hs
    obtain ⟨⟨rfl, rfl⟩, hs⟩ := hs
    exact ⟨fun _ => ⟨hs, s, Eqv.refl s, h [] (by simp [Sc.lin])⟩, fun e => by cases e⟩
  | .one i early t, 0, q, prot, L, s, hs, h => by simp [schedT] at hs
  | .one i early t, f + 1, q, prot, L, s, hs, h => by
    simp only [schedT, Bool.and_eq_true] at hs
    obtain ⟨hs1, hs2⟩ := hs
    obtain ⟨l0, hl0⟩ := List.exists_mem_of_ne_nil _ (lin_ne t)
    have h0 := h ((i, early) :: l0) (by simp only [Sc.lin]; exact List.mem_map_of_mem hl0)
    obtain ⟨o, v, m', s0, prot', h1, h2, h3, h4, hq, h5, h6⟩ := drawK_step hE h0
    have hall : ∀ l ∈ t.lin, drawK E ops l prot' base ({ s0 with m := m' }.put o.dst v) K = some r := fun l hl => by
      rw [← h6]; exact h _ (by simp only [Sc.lin]; exact List.mem_map_of_mem hl)
    have ih := (draw_any hE t f false prot' (L.setIfInBounds i true) _ hs2 hall).1 rfl
    have hnext : Eqv ({ s0 with m := m' }.put o.dst v) ({ s with m := m' }.put o.dst v) := h2.symm.put m' o.dst v
    have ih := anyE_eqv EndT.eqv _ _ hnext ih
    cases early with
    | false =>
      have hp : prot' = prot := by rcases h5 with h | h; · exact h.1
                                   · cases h.2
      subst hp
      have nx : NextE E ops base (EndT ops base K r) prot' f L s i := ⟨o, v, m', h1, h3, h4, ih⟩
      refine ⟨fun hq0 => ?_, fun _ j hj => ?_⟩
      · subst hq0
        simp only [Bool.false_or, decide_eq_true_eq] at hs1
        refine ⟨fun e => (by rw [hs1] at e; cases e), fun j hj => ?_⟩
        rw [hs1, List.mem_singleton] at hj
        subst hj
        exact nx
      · simp only [Sc.heads, List.mem_singleton] at hj
        subst hj
        exact ⟨f, rfl, nx⟩
    | true =>
      simp only [Bool.and_eq_true, h1, Bool.not_eq_true', Bool.or_eq_true] at hs1
      obtain ⟨⟨⟨k0, k1⟩, k2⟩, k3⟩ := hs1
      refine ⟨fun _ => ?_, fun e => (by rw [k0] at e; cases e)⟩
      obtain ⟨hm, hst⟩ := eff_steady hE rfl (k2.imp id fun k => ⟨k, hq⟩) h3
      subst hm
      have key : ∀ nm, (wantE ops o s = some true → ∀ b ∈ namesO E s o.op, b ∈ nm) → anyE E ops base (EndT ops base K r) ((i, nm) :: prot) f (L.setIfInBounds i true) (s.put o.dst v) → anyE E ops base (EndT ops base K r) prot (f + 1) L s := fun nm hn H =>
        anyE_first EndT.eqv h1 f L s (fun j oj hj hne hun hno => Region.free_spec h1 k3 j oj hj hne hun hno) (by simpa using k1) hst hn H
      rcases h5 with ⟨rfl, h7⟩ | ⟨rfl, _⟩
      · rcases h7 with h8 | h8
        · cases h8
        · refine key [] (fun hw => (by rw [h8] at hw; cases hw)) (anyE_weak (fun p hp => ?_) _ _ ih)
          rcases List.mem_cons.1 hp with rfl | hp
          · exact .inr rfl
          · exact .inl hp
      · exact key _ (fun _ b hb => hb) ih
  | .or a b, f, q, prot, L, s, hs, h => by
    simp only [schedT, Bool.and_eq_true, decide_eq_true_eq, ne_eq, Bool.or_eq_true] at hs
    obtain ⟨⟨⟨hs1, hf⟩, hs2⟩, hs3⟩ := hs
    have ha := (draw_any hE a f true prot L s hs2 (fun l hl => h l (by simp only [Sc.lin]; exact List.mem_append_left _ hl))).2 rfl
    have hb := (draw_any hE b f true prot L s hs3 (fun l hl => h l (by simp only [Sc.lin]; exact List.mem_append_right _ hl))).2 rfl
    have hab : ∀ i ∈ a.heads ++ b.heads, ∃ f', f = f' + 1 ∧ NextE E ops base (EndT ops base K r) prot f' L s i := fun i hi => (List.mem_append.1 hi).elim (ha i) (hb i)
    refine ⟨fun hq0 => ?_, fun _ => hab⟩
    have hready : Region.ready .any ops L = a.heads ++ b.heads := by
      rcases hs1 with hs1 | hs1
      · rw [hq0] at hs1; cases hs1
      · exact hs1
    cases f with
    | zero => exact absurd rfl hf
    | succ f =>
      have hne : a.heads ++ b.heads ≠ [] := by
        have : ∀ (t : Sc) (f : Nat) (L : Array Bool), schedT ops t f true L = true → t.heads ≠ [] := by
          intro t
          induction t with
          | done => intro f L h; simp [schedT] at h
          | one i e r _ => intro f L h; simp [Sc.heads]
          | or x y ihx _ =>
            intro f L h
            simp only [schedT, Bool.and_eq_true] at h
            simp only [Sc.heads, ne_eq, List.append_eq_nil_iff]
            exact fun e => ihx f L h.1.2 e.1
        simp only [ne_eq, List.append_eq_nil_iff]
        exact fun e => this a _ L hs2 e.1
      refine ⟨fun e => absurd (hready.symm.trans e) hne, fun i hi => ?_⟩
      rw [hready] at hi
      obtain ⟨f', e, k⟩ := hab i hi
      cases e
      exact k

/-- A state, and the machine's; the numbers of 'Z' are free. -/
structure Rz (E : Env) (w0 : World) (Ob A B : Nat → Prop) (N : Nat) (μ0 : Mu) (Z : Nat → Prop) (F : Nat → Prop) (μ : Mu) (s : St) (a : Act) (w : World) : Prop where
  mem : Mem E.G w0 Ob A B F μ s.m w
  tmps : ∀ t, R F B w μ (s.get t) (a.tmps.getD t undef)
  size : a.tmps.size = N
  defers : a.defers = []
  free : ∀ id, Z id → μ id = none
  keep : μ0.le μ

variable {w0 : World} {Ob A B F : Nat → Prop} {μ : Mu} {w : World} {N : Nat} {μ0 : Mu} {a : Act}

theorem Rz.pre (hE : EnvC P E) {Z : Nat → Prop} (h : Rz E w0 Ob A B N μ0 Z F μ s a w) : Pre P E w0 Ob A B F μ s a w where
  env := hE.ok
  mem := h.mem
  ev x := by
    cases x with
    | tmp t => exact h.tmps t
    | const v => exact ofVal_ok F B w μ v
    | global g =>
      simp only [opnd]
      split
      · rename_i cs hg; exact h.mem.glob g cs hg
      · simp only [R]
    | func f => simp only [opnd, R]; exact ⟨#[], rfl, by simp [RL]⟩

theorem Rz.put {Z : Nat → Prop} (h : Rz E w0 Ob A B N μ0 Z F μ s a w) {d : Option Nat} (hd : ∀ t, d = some t → t < N) {cv : Value} (hv : R F B w μ v cv) : Rz E w0 Ob A B N μ0 Z F μ (s.put d v) (a.put d cv) w where
  mem := by rw [put_m]; exact h.mem
  tmps t := by
    rw [get_put, getD_put h.size hd]; split
    · exact hv
    · exact h.tmps t
  size := by rw [size_put]; exact h.size
  defers := by rw [defers_put]; exact h.defers
  free := h.free
  keep := h.keep

theorem Rz.wanted {Z : Nat → Prop} (h : Rz E w0 Ob A B N μ0 Z F μ s a w) (hN : ops.all (dstOk N) = true) {o : Oper} {b : Bool} (hw : wantE ops o s = some b) : Region.wanted o (yielded ops a.tmps) = b := by
  unfold wantE at hw
  unfold Region.wanted
  cases hg : o.guard with
  | none => rw [hg] at hw; cases hw; rfl
  | some gw =>
    obtain ⟨j, want⟩ := gw
    rw [hg] at hw
    simp only at hw ⊢
    cases hoj : ops[j]? with
    | none => rw [hoj] at hw; cases hw
    | some oj =>
      cases hd : oj.dst with
      | none => rw [hoj] at hw; simp [hd] at hw
      | some d =>
        rw [hoj] at hw
        simp only [Option.bind_some, hd] at hw
        have hdN : d < N := dst_lt (Array.all_eq_true_iff_forall_mem.1 hN oj (Array.mem_of_getElem? hoj)) d hd
        have e : yielded ops a.tmps j = match a.tmps[d]? with | some (.bool b) => some b | _ => none := by
          simp only [yielded, hoj, hd, Option.bind_some]; rfl
        have e2 : a.tmps[d]? = some (a.tmps.getD d undef) := by
          rw [Array.getD_eq_getD_getElem?, Array.getElem?_eq_getElem (by rw [h.size]; exact hdN)]; rfl
        have hr := h.tmps d
        split at hw
        · rename_i b' hb
          rw [hb] at hr
          rw [e, e2, R_bool hr]
          simp only [Option.some.injEq] at hw
          rw [← hw]
          cases b' <;> cases want <;> rfl
        · rename_i hb
          rw [hb] at hr
          simp only [R] at hr
          obtain ⟨vs, e3, _⟩ := hr
          cases hw
          rw [e, e2, e3]; rfl
        · cases hw

/-- The numbers that a region still may give out. -/
def Zof (ops : Array Oper) (base : Nat) (L : Array Bool) (id : Nat) : Prop := base + stride * ops.size ≤ id ∨ ∃ i, i < ops.size ∧ L.getD i true = false ∧ base + stride * i ≤ id ∧ id < base + stride * i + stride

theorem any_sound (hE : EnvC P E) (hN : ops.all (dstOk N) = true) {T : St → Prop} {prot : List (Nat × List Nat)} {Q : Exit → Act → World → Prop}
    (hQ : ∀ s' a' w', T s' → Rel E w0 Ob A B N μ0 (base + stride * ops.size) s' a' w' → Q .normal a' w') :
    ∀ (f : Nat) (L : Array Bool) (s : St) (a : Act) (w : World) (F : Nat → Prop) (μ : Mu), Rz E w0 Ob A B N μ0 (Zof ops base L) F μ s a w → anyE E ops base T prot f L s → wpAny P .any ops Q f L a w
  | 0, L, s, a, w, F, μ, h, he => ⟨he.1, hQ _ _ _ he.2 ⟨F, μ, h.mem, h.tmps, h.size, h.defers, fun id hid => h.free id (.inl hid), h.keep⟩⟩
  | f + 1, L, s, a, w, F, μ, h, he => by
    refine ⟨fun hr => hQ _ _ _ (he.1 hr) ⟨F, μ, h.mem, h.tmps, h.size, h.defers, fun id hid => h.free id (.inl hid), h.keep⟩, fun i hi => ?_⟩
    obtain ⟨o, v, m', h1, h2, h3, h4⟩ := he.2 i hi
    obtain ⟨hiL, o', ho', _⟩ := mem_ready.1 hi
    have hlt : i < ops.size := (Array.getElem?_eq_some_iff.1 h1).1
    have hd := dst_lt (Array.all_eq_true_iff_forall_mem.1 hN o (Array.mem_of_getElem? h1))
    have zsub : ∀ id, Zof ops base (L.setIfInBounds i true) id → Zof ops base L id ∧ ¬ (base + stride * i ≤ id ∧ id < base + stride * i + 64) := fun id hz => by
      rcases hz with hz | ⟨j, j1, j2, j3, j4⟩
      · refine ⟨.inl hz, fun hh => ?_⟩
        have : stride * i + stride ≤ stride * ops.size := by rw [← Nat.mul_succ]; exact Nat.mul_le_mul_left _ hlt
        unfold stride at *; omega
      · have hne : i ≠ j := by
          rintro rfl
          rcases Nat.lt_or_ge i L.size with h' | h'
          · simp [h'] at j2
          · rw [Array.setIfInBounds_eq_of_size_le h'] at j2
            simp [Array.getElem?_eq_none h'] at j2
        refine ⟨.inr ⟨j, j1, by rw [getD_set_ne true hne] at j2; exact j2, j3, j4⟩, fun hh => ?_⟩
        unfold stride at *
        omega
    unfold wpOp
    simp only [h1]
    unfold effE at h2
    split at h2
    · rename_i hw
      rw [h.wanted hN hw]
      simp only [if_true]
      refine .inl (good_op hE (h.pre hE) (fun k hk => h.free _ (.inr ⟨i, hlt, hiL, by omega, by unfold stride; unfold stride at *; omega⟩)) h2 Q _ (fun cv w' F' μ' hs hv => ?_))
      refine any_sound hE hN hQ f _ _ _ _ F' μ' ?_ h4
      have k : Rz E w0 Ob A B N μ0 (Zof ops base (L.setIfInBounds i true)) F' μ' { s with m := m' } a w' :=
        ⟨hs.mem, fun t => hs.tr.R (h.tmps t), h.size, h.defers, fun id hid => hs.loc id (zsub id hid).2 (h.free id (zsub id hid).1), Mu.le_trans h.keep hs.tr.mu⟩
      exact k.put hd hv
    · rename_i hw
      rw [h.wanted hN hw]
      simp only [Bool.false_eq_true, if_false]
      obtain ⟨rfl, rfl⟩ := ok_pair h2
      refine any_sound hE hN hQ f _ _ _ _ F μ ?_ h4
      have k : Rz E w0 Ob A B N μ0 (Zof ops base (L.setIfInBounds i true)) F μ { s with m := s.m } a w :=
        ⟨h.mem, h.tmps, h.size, h.defers, fun id hid => h.free id (zsub id hid).1, h.keep⟩
      exact k.put hd (R_undef0 _ _ _ _)
    · cases h2

theorem sound_tree (hE : EnvC P E) (hmix : P.follows .mixedOrders = true) (hN : ops.all (dstOk N) = true) {id : Nat} {t : Sc} (hs : schedT ops t ops.size false (Array.replicate ops.size false) = true) {ρ : Type} {K : St → Option ρ} {r : ρ} {Q : Exit → Act → World → Prop}
    (h : Rel E w0 Ob A B N μ0 s.n s a w) (hr : ∀ l ∈ t.lin, drawK E ops l [] s.n s K = some r) (hQ : ∀ s' a' w', K s' = some r → Rel E w0 Ob A B N μ0 s'.n s' a' w' → Q .normal a' w') : (Code.region id ops true).wp P Q a w := by
  have hany := (draw_any hE t _ false [] _ s hs hr).1 rfl
  obtain ⟨F, μ, h⟩ := h
  refine wp_region_any hmix (any_sound hE hN (fun s' a' w' hT hrel => ?_) _ _ _ _ _ F μ ⟨h.mem.drew, fun t => (⟨fun _ x => x, fun _ _ _ _ e => e, fun _ _ _ _ e => e, μ.le_refl⟩ : Tr B F F μ μ w w.drew).R (h.tmps t), h.size, h.defers, fun id hz => h.free id ?_, h.keep⟩ hany)
  · obtain ⟨s'', he, hK⟩ := hT
    obtain ⟨F', μ', h'⟩ := hrel
    have := h'.eqv he.symm
    exact hQ _ a' w' hK ⟨F', μ', this.mem, this.tmps, this.size, this.defers, this.free, this.keep⟩
  · rcases hz with hz | ⟨i, _, _, h1, _⟩
    · unfold stride at hz; omega
    · omega

theorem sound_draw (hE : EnvC P E) (hmix : P.follows .mixedOrders = true) (hN : ops.all (dstOk N) = true) {id : Nat} {ord : List (Nat × Bool)} (hs : schedOk ops ord = true) {ρ : Type} {K : St → Option ρ} {r : ρ} {Q : Exit → Act → World → Prop}
    (h : Rel E w0 Ob A B N μ0 s.n s a w) (hr : drawK E ops ord [] s.n s K = some r) (hQ : ∀ s' a' w', K s' = some r → Rel E w0 Ob A B N μ0 s'.n s' a' w' → Q .normal a' w') : (Code.region id ops true).wp P Q a w :=
  sound_tree hE hmix hN hs h (fun l hl => by rw [lin_ofList, List.mem_singleton] at hl; rw [hl]; exact hr) hQ

theorem drawK_bind {ρ ρ' : Type} (hE : E.ok) {ops : Array Oper} (f : ρ → Option ρ') : ∀ (l : List (Nat × Bool)) (prot : List (Nat × List Nat)) (base : Nat) (s : St) (K : St → Option ρ), (drawK E ops l prot base s K).bind f = drawK E ops l prot base s (fun s => (K s).bind f)
  | [], prot, base, s, K => rfl
  | (i, e) :: l, prot, base, s, K => by
    have go : ∀ (o : Oper) (b : Nat) (s0 s1 : St) (p' : List (Nat × List Nat)),
        (opK E o.op b s0 fun v m => if (protOk prot o s1.m m && quietOk e o s1.m m) = true then drawK E ops l p' base ({ s0 with m := m }.put o.dst v) K else none).bind f =
        opK E o.op b s0 fun v m => if (protOk prot o s1.m m && quietOk e o s1.m m) = true then drawK E ops l p' base ({ s0 with m := m }.put o.dst v) (fun s => (K s).bind f) else none := fun o b s0 s1 p' => by
      rw [opK_bind hE]; congr 1; funext v m
      split
      · exact drawK_bind hE f l _ _ _ K
      · rfl
    simp only [drawK]
    split
    · rfl
    · split
      · exact go _ _ _ _ _
      · split
        · rfl
        · split
          · rfl
          · split
            · split
              · rw [iteB_bind, go, drawK_bind hE f l]
              · rw [iteB_bind, go, drawK_bind hE f l]
            · exact drawK_bind hE f l _ _ _ K
            · rfl

theorem forkL_mem {ops : Array Oper} {base : Nat} {s : St} {C : St → Option St} {o0 : List (Nat × Bool)} : ∀ (l : List (List (Nat × Bool))), forkL E ops base s C o0 l → ∀ o ∈ l, drawK E ops o [] base s C = drawK E ops o0 [] base s C
  | [], _, o, ho => by cases ho
  | x :: r, h, o, ho => by
    rcases List.mem_cons.1 ho with rfl | ho
    · exact h.1
    · exact forkL_mem r h.2 o ho

/-- All orders, where one was taken. -/
theorem orK_all {ρ : Type} (hE : E.ok) {kp live : List Nat} {t : Sc} {K : St → Option ρ} {r : ρ} (h : orK E kp live ops t base s K = some r) : ∀ l ∈ t.lin, drawK E ops l [] base s (fun s => K (canon kp live s)) = some r := by
  unfold orK at h
  split at h
  · cases h
  · rename_i o0 l hl
    split at h
    case isFalse => cases h
    rename_i hf
    have key : ∀ o, drawK E ops o [] base s (fun s => K (canon kp live s)) = (drawK E ops o [] base s (fun s => some (canon kp live s))).bind K := fun o => by
      rw [drawK_bind hE]; rfl
    intro o ho
    rw [hl] at ho
    rcases List.mem_cons.1 ho with rfl | ho
    · exact h
    · rw [key, forkL_mem l hf o ho, ← key]; exact h

theorem sound_fork (hE : EnvC P E) (hmix : P.follows .mixedOrders = true) {kp live : List Nat} (hkp : ∀ i o, μ0 i = some o → i ∈ kp) (hN : ops.all (dstOk N) = true) {id : Nat} {t : Sc} (hs : schedT ops t ops.size false (Array.replicate ops.size false) = true) {ρ : Type} {K : St → Option ρ} {r : ρ} {Q : Exit → Act → World → Prop}
    (h : Rel E w0 Ob A B N μ0 s.n s a w) (hr : orK E kp live ops t s.n s K = some r) (hQ : ∀ s' a' w', K s' = some r → Rel E w0 Ob A B N μ0 s'.n s' a' w' → Q .normal a' w') : (Code.region id ops true).wp P Q a w :=
  sound_tree hE hmix hN hs h (orK_all hE.ok.nat hr) (fun s' a' w' h1 h2 => hQ _ a' w' h1 (canon_ok hE hkp h2))
end
end Go.E

set_option linter.unusedVariables false
namespace Go.E
open Go Go.RowKit

/-- What of a function's code is looked at once. -/
def codeOk (An : Ann) (N : Nat) : Code → Bool
  | .region id ops d => ops.all (dstOk N) && (match d with
    | true => (match look An.fk id with
      | some p => schedT ops p.1 ops.size false (Array.replicate ops.size false)
      | none => match look An.sc id with
        | some ord => schedOk ops ord
        | none => true)
    | false => true)
  | .seq a b => codeOk An N a && codeOk An N b
  | .cond _ a b => codeOk An N a && codeOk An N b
  | .block _ a => codeOk An N a
  | .loop a => codeOk An N a
  | _ => true

def exOf : Ex → Exit
  | .normal => .normal
  | .exit id => .exit id
  | .ret => .ret

/-- What code comes to: the rest succeeds, at a state that tells the machine's. -/
def Post (E : Env) (w0 : World) (Ob A B : Nat → Prop) (N : Nat) (μ0 : Mu) {ρ : Type} (κ : Kt ρ) (r : ρ) (e : Exit) (a : Act) (w : World) : Prop :=
  ∃ x s, e = exOf x ∧ κ x s = some r ∧ Rel E w0 Ob A B N μ0 s.n s a w

section
variable {P : Program} {E : Env} {An : Ann} {w0 : World} {Ob A B : Nat → Prop} {N : Nat} {μ0 : Mu} {ρ : Type}

theorem lim_some {f : Nat → Option ρ} {r : ρ} (h : lim f = some r) : ∃ k, f k = some r := by
  unfold lim at h
  split at h
  · rename_i hx
    simp only [Option.some.injEq] at h
    exact h ▸ Classical.choose_spec hx
  · cases h

theorem least {p : Nat → Prop} (h : ∃ k, p k) : ∃ k, p k ∧ ∀ j, p j → k ≤ j := by
  obtain ⟨k, hk⟩ := h
  induction k using Nat.strongRecOn with
  | _ k ih =>
    by_cases hj : ∃ j, j < k ∧ p j
    · obtain ⟨j, h1, h2⟩ := hj; exact ih j h1 h2
    · exact ⟨k, hk, fun j hpj => Nat.le_of_not_lt fun h => hj ⟨j, h, hpj⟩⟩

theorem Rel.cond (hE : EnvC P E) {s : St} {a : Act} {w : World} (h : Rel E w0 Ob A B N μ0 s.n s a w) {c : Operand} {t : Bool} (hc : opnd E s c = .val .bool t) : a.eval c = .bool t := by
  obtain ⟨F, μ, h⟩ := h
  have := (h.pre hE).ev c
  rw [hc] at this
  exact R_bool this

theorem Rel.eqv {s s' : St} {b : Nat} {a : Act} {w : World} (h : Rel E w0 Ob A B N μ0 b s a w) (e : Eqv s s') : Rel E w0 Ob A B N μ0 b s' a w := by
  obtain ⟨F, μ, h⟩ := h
  exact ⟨F, μ, h.eqv e⟩

theorem Rel.frzS {s : St} {a : Act} {w : World} (h : Rel E w0 Ob A B N μ0 s.n s a w) (ts : List Nat) : Rel E w0 Ob A B N μ0 (Go.E.frzS ts s).n (Go.E.frzS ts s) a w := by
  have : ∀ (ts : List Nat) (m : Hp), Rel E w0 Ob A B N μ0 s.n { s with m := m } a w → Rel E w0 Ob A B N μ0 s.n { s with m := ts.foldl (fun m t => frz m (s.get t)) m } a w := by
    intro ts
    induction ts with
    | nil => intro m h; exact h
    | cons t ts ih =>
      intro m h
      refine ih _ ?_
      obtain ⟨F, μ, h⟩ := h
      obtain ⟨F', h', tr⟩ := h.mem.frz (s.get t)
      exact ⟨F', μ, h', fun u => tr.R (h.tmps u), h.size, h.defers, h.free, h.keep⟩
  exact this ts s.m h

theorem run_sound (hE : EnvC P E) (hmix : P.follows .mixedOrders = true) (hkp : ∀ i o, μ0 i = some o → i ∈ An.kp) : ∀ (c : Code), codeOk An N c = true → ∀ {ρ : Type} (κ : Kt ρ) (r : ρ) (s : St) (a : Act) (w : World), Rel E w0 Ob A B N μ0 s.n s a w →
    run E An c s κ = some r → c.wp P (Post E w0 Ob A B N μ0 κ r) a w := by
  intro c
  induction c with
  | skip => intro _ ρ κ r s a w h hr; simp only [run] at hr; exact wp_skip ⟨.normal, s, rfl, hr, h⟩
  | exit id => intro _ ρ κ r s a w h hr; simp only [run] at hr; exact wp_exit ⟨.exit id, s, rfl, hr, h⟩
  | ret => intro _ ρ κ r s a w h hr; simp only [run] at hr; exact wp_ret ⟨.ret, s, rfl, hr, h⟩
  | region id ops d =>
    intro hk ρ κ r s a w h hr
    simp only [codeOk, Bool.and_eq_true] at hk
    cases d with
    | false =>
      simp only [run] at hr
      refine wp_region (sound_ops hE hk.1 (K := κ .normal) (r := r) ops.toList (List.range ops.size) ?_ s.n s a w h hr (fun s' a' w' h1 h2 => ⟨.normal, s', rfl, h1, h2⟩))
      apply List.ext_getElem?
      intro i
      simp only [List.getElem?_map]
      by_cases hi : i < ops.size
      · rw [List.getElem?_range hi]; simp [hi]
      · rw [List.getElem?_eq_none (by simpa using hi), List.getElem?_eq_none (by simpa using hi)]; rfl
    | true =>
      simp only [run] at hr
      have hs := hk.2
      split at hr
      · rename_i p hp
        simp only [hp] at hs
        rw [hide_eq] at hr
        simp only [orP] at hr
        exact sound_fork hE hmix hkp hk.1 hs (Rel.frzS (canon_ok hE hkp h) _) hr (fun s' a' w' h1 h2 => ⟨.normal, s', rfl, h1, h2⟩)
      · rename_i hp
        simp only [hp] at hs
        split at hr
        · rename_i ord ho
          simp only [ho] at hs
          exact sound_draw hE hmix hk.1 hs h hr (fun s' a' w' h1 h2 => ⟨.normal, s', rfl, h1, h2⟩)
        · cases hr
  | seq x y ihx ihy =>
    intro hk ρ κ r s a w h hr
    simp only [codeOk, Bool.and_eq_true] at hk
    simp only [run] at hr
    refine wp_seq (wp_mono (ihx hk.1 _ r s a w h hr) (fun e a' w' => ?_))
    rintro ⟨x, s', rfl, h1, h2⟩
    cases x with
    | normal =>
      rw [seqK_normal] at h1
      exact ihy hk.2 κ r _ a' w' (canAt_ok hE hkp h2) h1
    | exit id => exact ⟨.exit id, s', rfl, h1, h2⟩
    | ret => exact ⟨.ret, s', rfl, h1, h2⟩
  | cond c x y ihx ihy =>
    intro hk ρ κ r s a w h hr
    simp only [codeOk, Bool.and_eq_true] at hk
    simp only [run] at hr
    split at hr
    · rename_i t hc
      have hev := h.cond hE hc
      split at hr
      · rename_i d
        have hc' : s.get d = .val .bool t := hc
        rcases iteB_some hr with ⟨rfl, hr⟩ | ⟨rfl, hr⟩
        · exact wp_cond hev (ihx hk.1 κ r (s.put (some d) (.val .bool true)) a w (h.eqv (eqv_bool hc')) hr)
        · exact wp_cond hev (ihy hk.2 κ r (s.put (some d) (.val .bool false)) a w (h.eqv (eqv_bool hc')) hr)
      · rcases iteB_some hr with ⟨rfl, hr⟩ | ⟨rfl, hr⟩
        · exact wp_cond hev (ihx hk.1 κ r s a w h hr)
        · exact wp_cond hev (ihy hk.2 κ r s a w h hr)
    · cases hr
  | block id x ih =>
    intro hk ρ κ r s a w h hr
    simp only [codeOk] at hk
    simp only [run] at hr
    refine wp_block (wp_mono (ih hk _ r s a w h hr) (fun e a' w' => ?_))
    rintro ⟨x, s', rfl, h1, h2⟩
    cases x with
    | normal => exact ⟨.normal, s', rfl, h1, h2⟩
    | ret => exact ⟨.ret, s', rfl, h1, h2⟩
    | exit j =>
      simp only [blockK] at h1
      simp only [exOf, Exit.inBlock]
      split at h1
      · rename_i e; rw [if_pos e]; exact ⟨.normal, s', rfl, h1, h2⟩
      · rename_i e; rw [if_neg e]; exact ⟨.exit j, s', rfl, h1, h2⟩
  | loop x ih =>
    intro hk ρ κ r s a w h hr
    simp only [codeOk] at hk
    simp only [run, loopR_def] at hr
    obtain ⟨k, hr⟩ := lim_some hr
    let M : Act → World → Nat → Prop := fun a w k => ∃ s, iter An x (run E An x) κ k s = some r ∧ Rel E w0 Ob A B N μ0 s.n s a w
    let I : Act → World → Prop := fun a w => ∃ k, M a w k
    classical
    let ms : Act → World → Nat := fun a w => if h : ∃ k, M a w k then Classical.choose (least h) else 0
    have hms : ∀ a w (h : ∃ k, M a w k), M a w (ms a w) ∧ ∀ j, M a w j → ms a w ≤ j := fun a w h => by
      have e : ms a w = Classical.choose (least h) := dif_pos h
      rw [e]; exact Classical.choose_spec (least h)
    refine wp_loop I ms ⟨k, _, hr, canAt_ok hE hkp h⟩ (fun a w hI => ?_)
    obtain ⟨⟨s1, hs1, hrel⟩, hmin⟩ := hms a w hI
    cases hn : ms a w with
    | zero => rw [hn] at hs1; simp [iter] at hs1
    | succ n =>
      rw [hn] at hs1
      simp only [iter] at hs1
      refine wp_mono (ih hk _ r s1 a w hrel hs1) (fun e a' w' => ?_)
      rintro ⟨y, s', rfl, h1, h2⟩
      cases y with
      | normal =>
        have hM : M a' w' n := ⟨_, h1, canAt_ok hE hkp h2⟩
        exact ⟨⟨n, hM⟩, Nat.lt_succ_of_le ((hms a' w' ⟨n, hM⟩).2 n hM)⟩
      | exit id => exact ⟨.exit id, s', rfl, h1, h2⟩
      | ret => exact ⟨.ret, s', rfl, h1, h2⟩
  | _ => intro _ ρ κ r s a w h hr; simp [run] at hr
end
end Go.E

