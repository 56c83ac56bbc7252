/- An ideal machine for the model's programs: its values are trees, its operations are told by plain functions; what it answers the model's machine does (part 3). It bears no condition. -/
import Derived.Test.YtolpgbgmldpneaaIm2
import Derived.Below
import GoSem.ClaimChange
import Derived.DataReads
import Derived.ChangeArms
import Derived.OpenShut
import Derived.SizedLaws
import Derived.WideShapes
import Derived.ChangeSame
import Derived.ChangeOld
import Derived.WideKeyArgs
import Derived.RowKit
import Derived.Carry
import Derived.LaidMore
import Derived.MakeChecks
namespace Go.Im
open Go
set_option linter.unusedVariables false
set_option linter.unusedSimpArgs false
set_option linter.unnecessarySimpa false
set_option linter.unusedSectionVars false

def exOf : Ex → Exit
  | .normal => .normal
  | .exit id => .exit id
  | .goto l => .goto l
  | .ret => .ret

section
variable {F : Fence} {n : Nat} {P : Program} {Q : Exit → Act → World → Prop} {c : Code}
/-- A loop, its rounds counted down. -/
theorem wpIn_loop_fuel (G : Nat → Act → World → Prop) (h0 : ∀ a w, ¬ G 0 a w)
    (round : ∀ m a w, G (m + 1) a w → c.wpIn F n P (Exit.then (fun a' w' => G m a' w') Q) a w) : ∀ (m : Nat) (a : Act) (w : World), G m a w → (Code.loop c).wpIn F n P Q a w := by
  intro m a w h b k cs hro hb hr
  have key : ∀ m a w, G m a w → ∃ e a' w', Q e a' w' ∧ ArrivesIn (Machine.fenced P F) P (lone (b.atR a (.code c :: .inLoop c :: k)) cs w) b k cs e a' w' := by
    intro m
    induction m with
    | zero => intro a w h; exact absurd h (h0 a w)
    | succ m ih =>
      intro a w hI
      obtain ⟨e, a₁, w₁, hq, harr⟩ := round m a w hI b (.inLoop c :: k) cs hro hb hr
      cases e with
      | normal =>
        obtain ⟨e₂, a₂, w₂, hq₂, harr₂⟩ := ih a₁ w₁ hq
        exact ⟨e₂, a₂, w₂, hq₂, .of_steps (StepsIn.trans harr (.one (fenced_calm hb hr rfl) stepR_inLoop)) harr₂⟩
      | exit id => exact ⟨_, a₁, w₁, hq, .pass (x := .inLoop c) rfl (fun _ _ => .inl (by simp)) harr⟩
      | goto l => exact ⟨_, a₁, w₁, hq, .pass (x := .inLoop c) rfl (fun _ _ => .inl (by simp)) harr⟩
      | ret => exact ⟨_, a₁, w₁, hq, .pass (x := .inLoop c) rfl (fun _ _ => .inl (by simp)) harr⟩
      | panic ch => exact ⟨_, a₁, w₁, hq, .pass (x := .inLoop c) rfl (fun _ _ => .inl (by simp)) harr⟩
      | outgrown => exact ⟨_, a₁, w₁, hq, .pass (x := .inLoop c) rfl (fun _ _ => .inl (by simp)) harr⟩
  obtain ⟨e, a', w', hq, harr⟩ := key m a w h
  exact ⟨e, a', w', hq, .of_steps (.one (fenced_calm hb hr rfl) stepR_loop) harr⟩

/-- As Q, but at a goto. -/
def Exit.jumps (J : Nat → Act → World → Prop) (Q : Exit → Act → World → Prop) : Exit → Act → World → Prop
  | .goto l, a, w => J l a w
  | e, a, w => Q e a w

theorem stepR_scope {b : Frame} {a : Act} {k : List Item} {cs : List Frame} {w : World} : step P (lone (b.atR a (.code (.scope c) :: k)) cs w) = .next (lone (b.atR a (.code c :: .inScope c :: k)) cs w) :=
  step_lone_go (by simp [stepG, stepG.exec, Frame.atR])
theorem stepR_inScope {b : Frame} {a : Act} {k : List Item} {cs : List Frame} {w : World} : step P (lone (b.atR a (.inScope c :: k)) cs w) = .next (lone (b.atR a k) cs w) :=
  step_lone_go (by simp [stepG, stepG.exec, Frame.atR])

/-- A scope, its jumps counted down. -/
theorem wpIn_scope_fuel (G : Nat → Nat → Act → World → Prop) (h0 : ∀ l a w, ¬ G 0 l a w)
    (pass : ∀ m l a w, G (m + 1) l a w → ∃ rest, findLabel c l = some rest ∧ rest.wpIn F n P (Exit.jumps (G m) Q) a w)
    {m : Nat} {a : Act} {w : World} (first : c.wpIn F n P (Exit.jumps (G m) Q) a w) : (Code.scope c).wpIn F n P Q a w := by
  intro b k cs hro hb hr
  have ends : ∀ {m : Nat} {mm : Machine} {e : Exit} {a₁ : Act} {w₁ : World}, (∀ l a w, G m l a w → ∃ rest, findLabel c l = some rest ∧ ∃ e a' w', Q e a' w' ∧ ArrivesIn (Machine.fenced P F) P (lone (b.atR a (.code rest :: .inScope c :: k)) cs w) b k cs e a' w') →
      Exit.jumps (G m) Q e a₁ w₁ → ArrivesIn (Machine.fenced P F) P mm b (.inScope c :: k) cs e a₁ w₁ → ∃ e a' w', Q e a' w' ∧ ArrivesIn (Machine.fenced P F) P mm b k cs e a' w' := by
    intro m mm e a₁ w₁ ih hq harr
    cases e with
    | normal => exact ⟨.normal, a₁, w₁, hq, StepsIn.trans harr (.one (fenced_calm (fr := b.atR a₁ (.inScope c :: k)) hb hr rfl) stepR_inScope)⟩
    | exit id =>
      have e1 : exitTo id (.inScope c :: k) = exitTo id k := by simp [exitTo]
      exact ⟨.exit id, a₁, w₁, hq, fun k' hk => harr.1 k' (by rw [e1]; exact hk), fun hr' hk => harr.2 hr' (by rw [e1]; exact hk)⟩
    | goto l =>
      obtain ⟨rest, hf, e₂, a₂, w₂, hq₂, harr₂⟩ := ih l a₁ w₁ hq
      exact ⟨e₂, a₂, w₂, hq₂, .of_steps (harr.1 (.code rest :: .inScope c :: k) (by simp [gotoIn, hf])) harr₂⟩
    | ret => exact ⟨_, a₁, w₁, hq, harr⟩
    | panic ch => exact ⟨_, a₁, w₁, hq, harr⟩
    | outgrown => exact ⟨_, a₁, w₁, hq, harr⟩
  have key : ∀ m l a w, G m l a w → ∃ rest, findLabel c l = some rest ∧ ∃ e a' w', Q e a' w' ∧ ArrivesIn (Machine.fenced P F) P (lone (b.atR a (.code rest :: .inScope c :: k)) cs w) b k cs e a' w' := by
    intro m
    induction m with
    | zero => intro l a w h; exact absurd h (h0 l a w)
    | succ m ih =>
      intro l a w hI
      obtain ⟨rest, hf, hw⟩ := pass m l a w hI
      obtain ⟨e, a₁, w₁, hq, harr⟩ := hw b (.inScope c :: k) cs hro hb hr
      exact ⟨rest, hf, ends ih hq harr⟩
  obtain ⟨e, a₁, w₁, hq, harr⟩ := first b (.inScope c :: k) cs hro hb hr
  obtain ⟨e₂, a₂, w₂, hq₂, harr₂⟩ := ends (key m) hq harr
  exact ⟨e₂, a₂, w₂, hq₂, .of_steps (.one (fenced_calm hb hr rfl) stepR_scope) harr₂⟩
end

theorem hasLabel_iff (l : Nat) : ∀ c : Code, (hasLabel l c = true → ∃ rest, findLabel c l = some rest) ∧ (hasLabel l c = false → findLabel c l = none) := by
  intro c
  induction c with
  | seq a b iha ihb =>
    simp only [hasLabel, Bool.or_eq_true, Bool.or_eq_false_iff, findLabel]
    refine ⟨fun h => ?_, fun h => ?_⟩
    · cases ha : findLabel a l with
      | some rest => exact ⟨_, rfl⟩
      | none =>
        rcases h with h | h
        · obtain ⟨r, hr⟩ := iha.1 h
          rw [hr] at ha; cases ha
        · exact ihb.1 h
    · rw [iha.2 h.1]
      exact ihb.2 h.2
  | label l' =>
    simp only [hasLabel, findLabel]
    by_cases e : l' = l
    · subst e
      simp
    · simp [e]
  | _ => simp [hasLabel, findLabel]

theorem keepOnly_get : ∀ (ks : List Nat) (i : Nat) (l : List IV) (t : Nat) (x : IV), (keepOnly ks i l)[t]? = some x → x = .undef ∨ l[t]? = some x
  | ks, i, [], t, x, h => by cases ks <;> simp [keepOnly] at h
  | [], i, y :: l, 0, x, h => by simp [keepOnly] at h; exact .inl h.symm
  | [], i, y :: l, t + 1, x, h => by
    simp only [keepOnly, List.getElem?_cons_succ] at h
    rw [List.getElem?_cons_succ]
    exact keepOnly_get [] (i + 1) l t x h
  | k :: ks, i, y :: l, t, x, h => by
    simp only [keepOnly] at h
    split at h
    · cases t with
      | zero => exact .inr h
      | succ t =>
        rw [List.getElem?_cons_succ] at h ⊢
        exact keepOnly_get ks (i + 1) l t x h
    · cases t with
      | zero => simp at h; exact .inl h.symm
      | succ t =>
        rw [List.getElem?_cons_succ] at h ⊢
        exact keepOnly_get (k :: ks) (i + 1) l t x h

theorem keepOnly_len : ∀ (ks : List Nat) (i : Nat) (l : List IV), (keepOnly ks i l).length = l.length
  | ks, i, [] => by cases ks <;> rfl
  | [], i, y :: l => by simp only [keepOnly, List.length_cons, keepOnly_len [] (i + 1) l]
  | k :: ks, i, y :: l => by
    simp only [keepOnly]
    split <;> simp only [List.length_cons, keepOnly_len _ (i + 1) l]

theorem renL_get {bp : Bool} {q : Nat} {f : Nat → Option Nat} {T : List Blk} : ∀ (l : List IV) (t : Nat), (renL bp q f T l)[t]? = (l[t]?).map (ren bp q f T)
  | [], t => by simp [renL]
  | x :: l, 0 => by simp [renL]
  | x :: l, t + 1 => by
    simp only [renL, List.getElem?_cons_succ]
    exact renL_get l t

theorem refsL_mem : ∀ {l : List IV} {t : Nat} {x : IV}, refsL l = [] → l[t]? = some x → refs x = []
  | [], t, x, _, h => by simp at h
  | y :: l, 0, x, hr, h => by
    simp only [refsL, List.append_eq_nil_iff] at hr
    simp at h
    subst h
    exact hr.1
  | y :: l, t + 1, x, hr, h => by
    simp only [refsL, List.append_eq_nil_iff] at hr
    exact refsL_mem hr.2 (by simpa using h)

theorem addNew_nil : ∀ {bs acc : List Nat}, addNew acc bs = [] → acc = [] ∧ bs = []
  | [], acc, h => ⟨h, rfl⟩
  | b :: bs, acc, h => by
    simp only [addNew] at h
    obtain ⟨h1, _⟩ := addNew_nil h
    split at h1
    · rename_i hc
      subst h1
      simp at hc
    · simp at h1


/-! ### Rows of their own -/
section
variable {P : Program} {H : Hint} {call : CallF} {K : KC}
theorem bare_rep {Γ : Cx} {w : World} {x : IV} {v : Value} (h : bare x = true) (hr : Rep Γ w x v) : ∃ A, v = .slice A 0 0 := by
  unfold bare at h
  split at h
  · simp only [Rep, RepC] at hr
    obtain ⟨A, c, e, h1, h2, h3, h4, _⟩ := hr
    have := h2 trivial
    subst this
    exact ⟨A, e⟩
  · cases h

theorem add_row {Γ : Cx} {w : World} (hi : Inv Γ w) (e : Nat) : Step Γ w (Γ.add (.row 0 false e []) none) w :=
  step_new hi ⟨rfl, rfl, rfl, Nat.le_refl _⟩ (fun _ _ => rfl) (fun g h => by cases h) (.inl ⟨rfl, rfl⟩)

theorem new_osl {Γ : Cx} {w : World} {A : Option Addr} (hi : Inv Γ w) (e : Nat) : Rep (Γ.add (.row 0 false e []) none) w (.osl Γ.T.length 0) (.slice A 0 0) := by
  simp only [Rep, RefO, Cx.add]
  refine ⟨by simp, rfl, fun ver' fz e' l hT => ?_⟩
  rw [List.getElem?_append_right (Nat.le_refl _)] at hT
  simp at hT
  obtain ⟨rfl, rfl, rfl, rfl⟩ := hT
  exact ⟨Nat.le_refl _, fun _ => ⟨A, 0, rfl, Nat.le_refl _, Nat.zero_le _, .inr ⟨rfl, rfl⟩⟩⟩

theorem repL_set {Γ : Cx} {w : World} : ∀ {cs : List IV} {vs : List Value} {i : Nat} {y : IV} {v : Value}, RepL Γ w cs vs → vs[i]? = some v → Rep Γ w y v → RepL Γ w (cs.set i y) vs
  | [], vs, i, y, v, h, hv, hy => by simpa using h
  | x :: xs, vs, 0, y, v, h, hv, hy => by
    simp only [RepL, List.set_cons_zero] at h ⊢
    obtain ⟨u, us, rfl, hx, hl⟩ := h
    simp at hv
    subst hv
    exact ⟨_, us, rfl, hy, hl⟩
  | x :: xs, vs, i + 1, y, v, h, hv, hy => by
    simp only [RepL, List.set_cons_succ] at h ⊢
    obtain ⟨u, us, rfl, hx, hl⟩ := h
    exact ⟨u, us, rfl, hx, repL_set hl (by simpa using hv) hy⟩
theorem repL_nth {Γ : Cx} {w : World} : ∀ {cs : List IV} {vs : List Value} {i : Nat} {x : IV}, RepL Γ w cs vs → cs[i]? = some x → ∃ v, vs[i]? = some v ∧ Rep Γ w x v
  | [], vs, i, x, h, hx => by simp at hx
  | y :: ys, vs, 0, x, h, hx => by
    simp only [RepL] at h
    obtain ⟨u, us, rfl, h1, hl⟩ := h
    simp at hx
    subst hx
    exact ⟨u, rfl, h1⟩
  | y :: ys, vs, i + 1, x, h, hx => by
    simp only [RepL] at h
    obtain ⟨u, us, rfl, h1, hl⟩ := h
    exact repL_nth (vs := us) hl (by simpa using hx)

theorem fresh1_ok {Γ : Cx} {w : World} {s : St} {a : Act} (hs : Sat K H Γ w s a) (hn : NoGd s.tm) : ∀ (x : Nat × Option Nat × Nat), ∃ Γ', Step Γ w Γ' w ∧ Sat K H Γ' w (fresh1 s x) a ∧ NoGd (fresh1 s x).tm := by
  have triv : ∃ Γ', Step Γ w Γ' w ∧ Sat K H Γ' w s a ∧ NoGd s.tm := ⟨Γ, Step.refl hs.inv, hs, hn⟩
  intro x
  obtain ⟨t, o, e⟩ := x
  cases o with
  | none =>
    simp only [fresh1, nth?_eq]
    split
    · rename_i x hx
      split
      · rename_i hb
        have S := add_row hs.inv e
        obtain ⟨A, hA⟩ := bare_rep hb (hs.tm.2 t x hx)
        refine ⟨_, S, ⟨S.inv, by simp [Cx.add, hs.T], ⟨by simpa using hs.tm.1, fun t' y hy => ?_⟩, hs.gl.ext S.ext, hs.df.step hs.inv S, K.step _ _ _ _ hs.inv hs.gd S⟩, fun t' j w c y hy => ?_⟩
        · by_cases h : t = t'
          · subst h
            rw [List.getElem?_set_self (List.getElem?_eq_some_iff.1 hx).1] at hy
            cases hy
            rw [hA, ← hs.T]
            exact new_osl hs.inv e
          · rw [List.getElem?_set_ne h] at hy
            exact Rep.ext S.ext _ _ (hs.tm.2 t' y hy)
        · by_cases h : t = t'
          · subst h
            rw [List.getElem?_set_self (List.getElem?_eq_some_iff.1 hx).1] at hy
            cases hy
          · rw [List.getElem?_set_ne h] at hy
            exact hn t' j w c y hy
      · exact triv
    · exact triv
  | some i =>
    simp only [fresh1, nth?_eq]
    split
    · rename_i b o ht
      split
      · rename_i cs hc
        split
        · rename_i x hx
          split
          · rename_i hb
            have S := add_row hs.inv e
            have hcT : Γ.T[b]? = some (.var false cs) := by rw [hs.T]; exact hc
            have hbl := (List.getElem?_eq_some_iff.1 hcT).1
            have hcA : (Γ.add (.row 0 false e []) none).T[b]? = some (.var false cs) := by
              simp only [Cx.add]
              rw [List.getElem?_append_left hbl]
              exact hcT
            obtain ⟨g, arr, ty, k1, k2, k3, k4, k5⟩ := S.inv.var b false cs hcA
            obtain ⟨v, hv, hxv⟩ := repL_nth k3 hx
            obtain ⟨A, hA⟩ := bare_rep hb hxv
            have S2 := step_set (k' := .var false (cs.set (o + i) (.osl Γ.T.length 0))) (og' := some g) S.inv ⟨rfl, rfl, rfl, Nat.le_refl _⟩ hcA k1 rfl ⟨by simp, rfl⟩ (fun _ _ _ => rfl) (.inl rfl)
              (by
                have e0 := ext_set (k' := .var false (cs.set (o + i) (.osl Γ.T.length 0))) (og' := some g) S.inv hcA k1 (w' := w) ⟨by simp, rfl⟩ rfl (fun _ _ _ => rfl) (fun g' e' => by cases e'; exact k5 rfl)
                refine ⟨g, arr, ty, rfl, k2, ?_, (fun h => by cases h), fun _ => k5 rfl⟩
                refine repL_set (RepL.ext e0 _ _ k3) hv ?_
                rw [hA]
                exact Rep.ext e0 _ _ (new_osl hs.inv e))
            have S12 := S.trans S2
            refine ⟨_, S12, ⟨S12.inv, ?_, hs.tm.ext S12.ext, hs.gl.ext S12.ext, hs.df.step hs.inv S12, K.step _ _ _ _ hs.inv hs.gd S12⟩, hn⟩
            simp only [Cx.set, Cx.add, hs.T]
            rw [List.set_append_left _ _ (by rw [← hs.T]; exact hbl)]
          · exact triv
        · exact triv
      · exact triv
    · exact triv
theorem freshen_ok {w : World} {a : Act} : ∀ (fr : List (Nat × Option Nat × Nat)) (Γ : Cx) (s : St), Sat K H Γ w s a → NoGd s.tm → ∃ Γ', Step Γ w Γ' w ∧ Sat K H Γ' w (freshen fr s) a ∧ NoGd (freshen fr s).tm
  | [], Γ, s, hs, hn => ⟨Γ, Step.refl hs.inv, hs, hn⟩
  | x :: r, Γ, s, hs, hn => by
    obtain ⟨Γ1, S1, h1, n1⟩ := fresh1_ok hs hn x
    obtain ⟨Γ2, S2, h2, n2⟩ := freshen_ok r Γ1 _ h1 n1
    exact ⟨Γ2, S1.trans S2, h2, n2⟩

variable {Γ0 : Cx} {w0 : World} {p0 p : Nat}
/-- A loop's head. -/
theorem norm0_ok {Γ : Cx} {w : World} {s : St} {a : Act} {kp : Keep} (hq : K.q ≤ p) (hp0 : p0 ≤ p) (hf : Fr p0 Γ0 w0 Γ w) (hs : Sat K H Γ w s a) (hn : NoGd s.tm) :
    ∃ Γ', Fr p0 Γ0 w0 Γ' w ∧ Sat K H Γ' w (norm0 p kp s) a ∧ NoGd (norm0 p kp s).tm := by
  have htm : TmRep Γ w (keepOnly kp.ks 0 s.tm) a.tmps := by
    refine ⟨by rw [keepOnly_len]; exact hs.tm.1, fun t x hx => ?_⟩
    rcases keepOnly_get _ _ _ _ _ hx with rfl | h
    · trivial
    · exact hs.tm.2 t x h
  have hno : NoGd (keepOnly kp.ks 0 s.tm) := by
    intro t j w c x hx
    rcases keepOnly_get _ _ _ _ _ hx with h | h
    · cases h
    · exact hn t j w c x h
  unfold norm0
  rw [force_eq]
  split
  · rename_i hnil
    obtain ⟨h1, h2⟩ := addNew_nil hnil
    have hp : p = 0 := by
      have := congrArg List.length h1
      simpa using this
    subst hp
    refine ⟨Γ.sub false 0 [], hf.sub List.nodup_nil hp0 (fun b hb => by omega), ⟨sub_inv hs.inv List.nodup_nil, rfl, ⟨htm.1, fun t x hx => ?_⟩, hs.gl, hs.df, K.sub _ _ _ _ _ hs.inv hs.gd hq (fun b hb => by omega)⟩, hno⟩
    exact noref_rep x _ (refsL_mem h2 hx) (htm.2 t x hx)
  · rename_i rs hne
    rw [force_eq, force_eq, force_eq]
    have hnd : (reach s.bx 2 (addNew (List.range p) (refsL (keepOnly kp.ks 0 s.tm)))).Nodup := reach_nodup _ _ (addNew_nodup _ _ List.nodup_range)
    have hpre : List.range p <+: reach s.bx 2 (addNew (List.range p) (refsL (keepOnly kp.ks 0 s.tm))) := List.IsPrefix.trans (addNew_prefix _ _) (reach_prefix _ _)
    generalize reach s.bx 2 (addNew (List.range p) (refsL (keepOnly kp.ks 0 s.tm))) = bs at hnd hpre
    have hpr := prefix_range hpre
    refine ⟨Γ.sub kp.bp p bs, hf.sub hnd hp0 (fun b hb => hpr b (by omega)), ⟨sub_inv hs.inv hnd, by rw [← hs.T]; rfl, ⟨by rw [renL_len]; exact htm.1, fun t x hx => ?_⟩, hs.gl, hs.df, K.sub _ _ _ _ _ hs.inv hs.gd hq hpr⟩, ?_⟩
    · rw [renL_get] at hx
      obtain ⟨y, hy, rfl⟩ := Option.map_eq_some_iff.1 hx
      rw [← hs.T]
      exact ren_rep y _ (htm.2 t y hy)
    · intro t j w c x hx
      rw [renL_get] at hx
      obtain ⟨y, hy, e⟩ := Option.map_eq_some_iff.1 hx
      cases y <;> simp only [ren] at e <;> first | (cases e; done) | (split at e <;> cases e; done)
theorem norm_ok {Γ : Cx} {w : World} {s : St} {a : Act} {kp : Keep} (hq : K.q ≤ p) (hp0 : p0 ≤ p) (hf : Fr p0 Γ0 w0 Γ w) (hs : Sat K H Γ w s a) (hn : NoGd s.tm) :
    ∃ Γ', Fr p0 Γ0 w0 Γ' w ∧ Sat K H Γ' w (norm p kp s) a ∧ NoGd (norm p kp s).tm := by
  obtain ⟨Γ1, S1, h1, n1⟩ := freshen_ok kp.fr Γ s hs hn
  exact norm0_ok hq hp0 (hf.step S1) h1 n1

/-- What a region does. -/
def RegOK (K : KC) (P : Program) (H : Hint) (call : CallF) : Prop :=
  ∀ (rr : Option Nat) (nn : Nat) (id : Nat) (ops : Array Oper) (draw : Bool) (s s' : St) (Γ : Cx) (w : World) (a : Act) (Q : Exit → Act → World → Prop), aregion P H call ops draw s = some s' → Sat K H Γ w s a → NoGd s.tm →
    (∀ a' w' Γ', Step Γ w Γ' w' → Sat K H Γ' w' s' a' → NoGd s'.tm → Q .normal a' w') → (Code.region id ops draw).wpIn (FW rr) nn P Q a w

/-- What a function does that a loop goes over. -/
def ItSem (P : Program) (H : Hint) (g : FuncId) (as : List IV) (T : List Blk) (Y : YF) (T1 : List Blk) : Prop :=
  ∀ (K : KC) (Γ : Cx) (w : World) (vs : List Value), K.n0 = w.heap.size → K.q ≤ T.length → YieldOK K P H Y → Inv Γ w → Γ.T = T → GlOK H Γ w → K.G Γ w → RepL Γ w as vs → NoGd as →
    Calls P g vs.toArray w fun e w' => ∃ v Γ', e = .returned v ∧ Γ'.T = T1 ∧ Fr T.length Γ w Γ' w'
/-- What a function's code leans on. -/
structure Env (K : KC) (P : Program) (H : Hint) (call : CallF) (it : ItF) (rr : Option Nat) : Prop where
  reg : RegOK K P H call
  its : ∀ g as T Y T1, it g as T Y = some T1 → rr = none ∧ (∀ K', RegOK K' P H call) ∧ (∃ fn, P.funcs[g]? = some fn ∧ fn.name ≠ "runtime.NumGoroutine" ∧ fn.body.isSome = true) ∧ ItSem P H g as T Y T1

def RunOK (P : Program) (H : Hint) (run : ItF → Nat → Nat → Keep → St → Option (Ex × St)) (call : CallF) (wp : Option Nat → Nat → (Exit → Act → World → Prop) → Act → World → Prop) : Prop :=
  ∀ (K : KC) (it : ItF) (rr : Option Nat) (nn n p p0 : Nat) (kp : Keep) (Γ0 : Cx) (w0 : World), Env K P H call it rr → K.n0 ≤ w0.heap.size → K.q ≤ p → p0 ≤ p →
    ∀ (s : St) (ex : Ex) (s' : St) (Γ : Cx) (w : World) (a : Act) (Q : Exit → Act → World → Prop), run it n p kp s = some (ex, s') → Fr p0 Γ0 w0 Γ w → Sat K H Γ w s a → NoGd s.tm →
    (∀ a' w' Γ', Fr p0 Γ0 w0 Γ' w' → Sat K H Γ' w' s' a' → NoGd s'.tm → Q (exOf ex) a' w') → wp rr nn Q a w
abbrev ExecOK (P : Program) (H : Hint) (call : CallF) (c : Code) : Prop := RunOK P H (fun it n p kp s => aexec P H call it n p kp c s) call fun rr nn Q a w => c.wpIn (FW rr) nn P Q a w
abbrev FromOK (P : Program) (H : Hint) (call : CallF) (c : Code) : Prop := ∀ l, RunOK P H (fun it n p kp s => afrom P H call it n p kp l c s) call fun rr nn Q a w => ∃ rest, findLabel c l = some rest ∧ rest.wpIn (FW rr) nn P Q a w
end
end Go.Im

namespace Go.Im
open Go
set_option linter.unusedVariables false
set_option linter.unusedSimpArgs false
set_option linter.unnecessarySimpa false
set_option linter.unusedSectionVars false

/-! ### Values that no row's change turns -/
mutual
theorem calm_sub {Γ : Cx} {w : World} {bp : Bool} {q : Nat} {bs : List Nat} : ∀ (x : IV) (v : Value), noVer x = true → (∀ b ∈ refs x, bs[b]? = some b) → Rep Γ w x v → Rep (Γ.sub bp q bs) w x v
  | .undef, _, _, _, _ => trivial
  | .int _ _, _, _, _, hr => hr
  | .bool _, _, _, _, hr => hr
  | .str _, _, _, _, hr => hr
  | .nilp, _, _, _, hr => hr
  | .nilf, _, _, _, hr => hr
  | .nili, _, _, _, hr => hr
  | .fsl .., _, _, _, hr => hr
  | .fp _, _, _, _, hr => hr
  | .gd .., _, h, _, _ => by simp [noVer] at h
  | .osl .., _, h, _, _ => by simp [noVer] at h
  | .vsl .., _, h, _, _ => by simp [noVer] at h
  | .ep .., _, h, _, _ => by simp [noVer] at h
  | .yf .., _, h, _, _ => by simp [noVer] at h
  | .agg l, _, h, hb, hr => by
    simp only [noVer] at h
    simp only [refs] at hb
    simp only [Rep] at hr ⊢
    obtain ⟨vs, e, hl⟩ := hr
    exact ⟨vs, e, calmL_sub l vs h hb hl⟩
  | .tup l, _, h, hb, hr => by
    simp only [noVer] at h
    simp only [refs] at hb
    simp only [Rep] at hr ⊢
    obtain ⟨vs, e, hl⟩ := hr
    exact ⟨vs, e, calmL_sub l vs h hb hl⟩
  | .fn f l, _, h, hb, hr => by
    simp only [noVer] at h
    simp only [refs] at hb
    simp only [Rep] at hr ⊢
    obtain ⟨vs, e, hl⟩ := hr
    exact ⟨vs, e, calmL_sub l vs h hb hl⟩
  | .vsv b lo n, v, _, hb, hr => by
    have h1 := hb b (by simp [refs])
    simp only [Rep, RefA, Cx.sub] at hr ⊢
    refine ⟨by simpa using (List.getElem?_eq_some_iff.1 h1).1, hr.2.1, fun fz cs hT => ?_⟩
    simp only [List.getElem?_map, h1, Option.map_some, Option.some.injEq] at hT ⊢
    obtain ⟨cs0, hT0, rfl⟩ := renB_var hT
    obtain ⟨k1, A, c, k2, k3, k4⟩ := hr.2.2 _ _ hT0
    refine ⟨by rw [renL_len]; exact k1, A, c, k2, k3, ?_⟩
    rcases k4 with k4 | ⟨g, k4, k5⟩
    · exact .inl k4
    · exact .inr ⟨g, by rw [k4]; rfl, k5⟩
  | .ptr b off, v, _, hb, hr => by
    have h1 := hb b (by simp [refs])
    simp only [Rep, RefP, Cx.sub] at hr ⊢
    refine ⟨by simpa using (List.getElem?_eq_some_iff.1 h1).1, hr.2.1, fun fz cs hT => ?_⟩
    simp only [List.getElem?_map, h1, Option.map_some, Option.some.injEq] at hT ⊢
    obtain ⟨cs0, hT0, rfl⟩ := renB_var hT
    obtain ⟨g, k4, k5⟩ := hr.2.2 _ _ hT0
    exact ⟨g, by rw [k4]; rfl, k5⟩
theorem calmL_sub {Γ : Cx} {w : World} {bp : Bool} {q : Nat} {bs : List Nat} : ∀ (l : List IV) (vs : List Value), noVerL l = true → (∀ b ∈ refsL l, bs[b]? = some b) → RepL Γ w l vs → RepL (Γ.sub bp q bs) w l vs
  | [], _, _, _, hr => hr
  | x :: xs, _, h, hb, hr => by
    simp only [noVerL, Bool.and_eq_true] at h
    simp only [refsL, List.mem_append] at hb
    simp only [RepL] at hr ⊢
    obtain ⟨v, us, e, hx, hl⟩ := hr
    exact ⟨v, us, e, calm_sub x v h.1 (fun b hm => hb b (.inl hm)) hx, calmL_sub xs us h.2 (fun b hm => hb b (.inr hm)) hl⟩
end
mutual
theorem refs_lt {Γ : Cx} {w : World} : ∀ (x : IV) (v : Value), noVer x = true → Rep Γ w x v → ∀ b ∈ refs x, b < Γ.T.length
  | .undef, _, _, _ => by simp [refs]
  | .int _ _, _, _, _ => by simp [refs]
  | .bool _, _, _, _ => by simp [refs]
  | .str _, _, _, _ => by simp [refs]
  | .nilp, _, _, _ => by simp [refs]
  | .nilf, _, _, _ => by simp [refs]
  | .nili, _, _, _ => by simp [refs]
  | .fsl .., _, _, _ => by simp [refs]
  | .fp _, _, _, _ => by simp [refs]
  | .gd .., _, h, _ => by simp [noVer] at h
  | .osl .., _, h, _ => by simp [noVer] at h
  | .vsl .., _, h, _ => by simp [noVer] at h
  | .ep .., _, h, _ => by simp [noVer] at h
  | .yf .., _, h, _ => by simp [noVer] at h
  | .agg l, _, h, hr => by
    simp only [noVer] at h
    simp only [refs]
    simp only [Rep] at hr
    obtain ⟨vs, e, hl⟩ := hr
    exact refsL_lt l vs h hl
  | .tup l, _, h, hr => by
    simp only [noVer] at h
    simp only [refs]
    simp only [Rep] at hr
    obtain ⟨vs, e, hl⟩ := hr
    exact refsL_lt l vs h hl
  | .fn f l, _, h, hr => by
    simp only [noVer] at h
    simp only [refs]
    simp only [Rep] at hr
    obtain ⟨vs, e, hl⟩ := hr
    exact refsL_lt l vs h hl
  | .vsv b lo n, v, _, hr => by
    simp only [Rep, RefA] at hr
    simp only [refs, List.mem_singleton]
    rintro _ rfl
    exact hr.1
  | .ptr b off, v, _, hr => by
    simp only [Rep, RefP] at hr
    simp only [refs, List.mem_singleton]
    rintro _ rfl
    exact hr.1
theorem refsL_lt {Γ : Cx} {w : World} : ∀ (l : List IV) (vs : List Value), noVerL l = true → RepL Γ w l vs → ∀ b ∈ refsL l, b < Γ.T.length
  | [], _, _, _ => by simp [refsL]
  | x :: xs, _, h, hr => by
    simp only [noVerL, Bool.and_eq_true] at h
    simp only [RepL] at hr
    obtain ⟨v, us, e, hx, hl⟩ := hr
    simp only [refsL, List.mem_append]
    rintro b (hb | hb)
    · exact refs_lt x v h.1 hx b hb
    · exact refsL_lt xs us h.2 hl b hb
end

theorem calm_noVer (x : IV) : noVer (calm x) = true := by
  unfold calm
  split
  · assumption
  · rfl
theorem calm_cases (x : IV) : calm x = x ∨ calm x = .undef := by
  unfold calm
  split
  · exact .inl rfl
  · exact .inr rfl
theorem ren_nogd {bp : Bool} {q : Nat} {f : Nat → Option Nat} {T : List Blk} (x : IV) : ∀ j w c y, ren bp q f T x ≠ .gd j w c y := by
  intro j w c y e
  cases x <;> simp only [ren] at e <;> first | (cases e; done) | (split at e <;> cases e; done)
theorem idx_range {n b : Nat} (h : b < n) : idx (List.range n) b = some b := by
  have h0 : (List.range n).Nodup := List.nodup_range
  cases hi : idx (List.range n) b with
  | none => exact absurd (List.mem_range.2 h) (idx_none.1 hi)
  | some i =>
    have := idx_some hi
    rw [List.getElem?_range (by have := (List.getElem?_eq_some_iff.1 this).1; simpa using this)] at this
    simpa using this
theorem renL_nogd {bp : Bool} {q : Nat} {f : Nat → Option Nat} {T : List Blk} (l : List IV) : NoGd (renL bp q f T l) := by
  intro t j w c x hx
  rw [renL_get] at hx
  obtain ⟨y, hy, e⟩ := Option.map_eq_some_iff.1 hx
  exact ren_nogd y j w c x e

/-- The slots of a round. -/
theorem setPs_rep {Γ : Cx} {w : World} : ∀ (ps : List Tmp) (tm : List IV) (tmps : Array Value) (xs : List IV) (vs : List Value), TmRep Γ w tm tmps → RepL Γ w xs vs →
    TmRep Γ w (setPs tm ps xs) ((ps.zip vs).foldl (fun t (p, v) => t.setIfInBounds p v) tmps)
  | [], tm, tmps, xs, vs, ht, _ => by cases xs <;> exact ht
  | p :: ps, tm, tmps, [], vs, ht, hx => by
    simp only [RepL] at hx
    subst hx
    exact ht
  | p :: ps, tm, tmps, x :: xs, vs, ht, hx => by
    simp only [RepL] at hx
    obtain ⟨v, us, rfl, h1, h2⟩ := hx
    simp only [setPs, List.zip_cons_cons, List.foldl_cons]
    refine setPs_rep ps _ _ xs us ⟨by simpa using ht.1, fun t y hy => ?_⟩ h2
    by_cases e : p = t
    · subst e
      by_cases hl : p < tm.length
      · rw [List.getElem?_set_self hl] at hy
        cases hy
        have h2 : p < tmps.size := Nat.lt_of_lt_of_le hl ht.1
        simpa [Array.getD, h2] using h1
      · rw [List.getElem?_eq_none (by simpa using hl)] at hy
        cases hy
    · rw [List.getElem?_set_ne e] at hy
      have := ht.2 t y hy
      simpa [Array.getD_eq_getD_getElem?, Array.getElem?_setIfInBounds, e] using this
theorem setPs_nogd : ∀ (ps : List Tmp) (tm : List IV) (xs : List IV), NoGd tm → NoGd xs → NoGd (setPs tm ps xs)
  | [], tm, xs, ht, _ => by cases xs <;> exact ht
  | p :: ps, tm, [], ht, _ => ht
  | p :: ps, tm, x :: xs, ht, hx => by
    simp only [setPs]
    refine setPs_nogd ps _ xs (fun t j w c y hy => ?_) fun t j w c y hy => hx (t + 1) j w c y (by simpa using hy)
    by_cases e : p = t
    · subst e
      by_cases hl : p < tm.length
      · rw [List.getElem?_set_self hl] at hy
        cases hy
        exact hx 0 j w c y rfl
      · rw [List.getElem?_eq_none (by simpa using hl)] at hy
        cases hy
    · rw [List.getElem?_set_ne e] at hy
      exact ht t j w c y hy

/-! ### What holds while a loop goes over a function -/
def Good (b l : Nat) (rec0 : Loop) (tm0 : List IV) (tmps0 : Array Value) (Γ : Cx) (w : World) : Prop :=
  b < Γ.T.length ∧ (∀ j, Γ.T[b]? = some (.lp j) → Γ.ρ[b]? = some (some l) ∧ ∃ r : Loop, w.heap[l]? = some (Obj.loop r) ∧ Stat rec0 r) ∧ TmRep Γ w tm0 tmps0

def loopKC (n0 q b l : Nat) (rec0 : Loop) (tm0 : List IV) (tmps0 : Array Value) (hb : b < q) (hc : ∀ x ∈ tm0, noVer x = true) (hr : ∀ x ∈ tm0, ∀ c ∈ refs x, c < q) : KC where
  n0 := n0
  q := q
  G := Good b l rec0 tm0 tmps0
  step := by
    intro Γ w Γ' w' hi ⟨h1, h2, h3⟩ S
    refine ⟨Nat.lt_of_lt_of_le h1 S.ext.len, fun j hj => ?_, h3.ext S.ext⟩
    obtain ⟨j0, k1, k2⟩ := S.ext.lp b j h1 hj
    obtain ⟨m1, r, m2, m3⟩ := h2 j0 k1
    obtain ⟨r', n1, n2⟩ := S.frm.lps l r m2
    exact ⟨k2.trans m1, r', n1, m3.trans n2⟩
  sub := by
    intro Γ w bp p bs hi ⟨h1, h2, h3⟩ hq hpre
    have hbb := hpre b (by omega)
    refine ⟨by simpa [Cx.sub] using (List.getElem?_eq_some_iff.1 hbb).1, fun j hj => ?_, h3.1, fun t x hx => ?_⟩
    · simp only [Cx.sub, List.getElem?_map, hbb, Option.map_some, Option.some.injEq] at hj ⊢
      obtain ⟨m1, r, m2, m3⟩ := h2 j (renB_lp hj)
      exact ⟨by rw [m1]; rfl, r, m2, m3⟩
    · have hm := List.mem_of_getElem? hx
      exact calm_sub x _ (hc x hm) (fun c hcx => hpre c (by have := hr x hm c hcx; omega)) (h3.2 t x hx)

section
variable {P : Program} {H : Hint} {call : CallF}

theorem inAll_some {α : Type} {T : List Blk} {run : List Blk → Option (α × List Blk)} {r : α} {T2 : List Blk} (h : inAll T run = some (r, T2)) :
    ∃ T1, run ((List.range T.length).map (renB false 0 (idx (List.range T.length)) T)) = some (r, T1) ∧ T2 = putBack T (List.range T.length) (backBs (fbk (List.range T.length) T.length) (vbk T (List.range T.length)) 0 T1) := by
  unfold inAll at h
  split at h
  · rename_i r1 T1 h1
    cases h
    exact ⟨T1, h1, rfl⟩
  · cases h

/-- All blocks handed over. -/
abbrev allOf (Γ : Cx) : Cx := (Γ.shut []).sub false 0 (List.range Γ.T.length)
theorem all_inv {Γ : Cx} {w : World} (hi : Inv Γ w) : Inv (allOf Γ) w := sub_inv (step_shut hi []).inv List.nodup_range
theorem all_T {Γ : Cx} : (allOf Γ).T = (List.range Γ.T.length).map (renB false 0 (idx (List.range Γ.T.length)) Γ.T) := lent_sub_T (fun b hb => by cases hb)
theorem all_ok {Γ : Cx} : ∀ g, Γ.ok g → (allOf Γ).ok g := fun g h => .inl h
theorem all_ren {Γ : Cx} {w : World} (hi : Inv Γ w) {xs : List IV} {vs : List Value} (h : RepL Γ w xs vs) : RepL (allOf Γ) w (renL false 0 (idx (List.range Γ.T.length)) Γ.T xs) vs := by
  have := renL_rep (bp := false) (q := 0) (bs := List.range Γ.T.length) xs vs (RepL.ext (step_shut hi []).ext xs vs h)
  rwa [show (Γ.shut []).T = Γ.T from rfl] at this
theorem all_calm {Γ : Cx} {w : World} (hi : Inv Γ w) {x : IV} {v : Value} (hc : noVer x = true) (h : Rep Γ w x v) : Rep (allOf Γ) w x v := by
  refine calm_sub x v hc (fun b hb => ?_) (Rep.ext (step_shut hi []).ext x v h)
  have := refs_lt x v hc h b hb
  rw [List.getElem?_range this]
theorem all_rho {Γ : Cx} {b l : Nat} (hb : b < Γ.T.length) (h : Γ.ρ[b]? = some (some l)) : (allOf Γ).ρ[b]? = some (some l) := by
  simp only [Cx.sub, Cx.shut, List.getElem?_map, List.getElem?_range hb, Option.map_some]
  rw [h]
  rfl
theorem all_len {Γ : Cx} : (allOf Γ).T.length = Γ.T.length := by simp [Cx.sub, Cx.shut]
/-- Back from something that all blocks were handed to. -/
theorem all_back {Γ Γ' : Cx} {w w' : World} (hi : Inv Γ w) (hfr : Fr Γ.T.length (allOf Γ) w Γ' w') :
    ∃ Γ2, Γ2.T = putBack Γ.T (List.range Γ.T.length) (backBs (fbk (List.range Γ.T.length) Γ.T.length) (vbk Γ.T (List.range Γ.T.length)) 0 Γ'.T) ∧ Step Γ w Γ2 w' := by
  have hfr' : Fr (List.range Γ.T.length).length (allOf Γ) w Γ' w' := by rw [List.length_range]; exact hfr
  obtain ⟨S, _⟩ := back_shut (lent := []) hi List.nodup_range (fun b hb => List.mem_range.1 hb) (fun b hb => by cases hb) hfr'
  exact ⟨_, rfl, S⟩

theorem putObj_same {w : World} {l : Nat} {o o' : Obj} (h : w.heap[l]? = some o) : (w.putObj l o').heap[l]? = some o' := World.putObj_heap_same (Array.getElem?_eq_some_iff.1 h).1
theorem putObj_quiet {w : World} {l : Nat} {o' : Obj} : Quiet w (w.putObj l o') := ⟨rfl, rfl, rfl, by simp [World.putObj]⟩
/-- A loop's record turned. -/
theorem lp_step {Γ : Cx} {w : World} (hi : Inv Γ w) {b l : Nat} {j j' : LpS} (hT : Γ.T[b]? = some (.lp j)) (hρ : Γ.ρ[b]? = some (some l)) {r r' : Loop} (hl : w.heap[l]? = some (Obj.loop r)) (hs : Stat r r') (hj : LpSt j' r') :
    Step Γ w (Γ.set b (.lp j') (some l)) (w.putObj l (Obj.loop r')) := by
  obtain ⟨g, r0, k1, k2, k3, k4⟩ := hi.lp b j hT
  rw [hρ] at k1
  cases k1
  have hst : ∀ (g : Nat) (r1 : Loop), some l = some g → w.heap[g]? = some (Obj.loop r1) → ∃ r' : Loop, (w.putObj l (Obj.loop r')).heap[g]? = some (Obj.loop r') ∧ Stat r1 r' := by
    intro g r1 e h1
    cases e
    rw [hl] at h1
    cases h1
    exact ⟨r', putObj_same hl, hs⟩
  refine step_set (k' := .lp j') (og' := some l) hi putObj_quiet hT hρ rfl ⟨rfl, ?_⟩ (fun g hg hne => World.putObj_heap_other (fun e => hne (by rw [e]))) (.inl rfl) ?_
  · intro g r1 e h1
    cases e
    rw [hl] at h1
    cases h1
    exact ⟨r', putObj_same hl, hs⟩
  · exact ⟨l, r', rfl, putObj_same hl, hj, k4⟩
theorem lp_dead {Γ : Cx} {w : World} (hi : Inv Γ w) {b l : Nat} {j : LpS} (hT : Γ.T[b]? = some (.lp j)) (hρ : Γ.ρ[b]? = some (some l)) {r r' : Loop} (hl : w.heap[l]? = some (Obj.loop r)) (hs : Stat r r') :
    Step Γ w (Γ.set b .dead (some l)) (w.putObj l (Obj.loop r')) := by
  refine step_set (k' := .dead) (og' := some l) hi putObj_quiet hT hρ rfl ?_ (fun g hg hne => World.putObj_heap_other (fun e => hne (by rw [e]))) (.inl rfl) trivial
  intro g r1 e h1
  cases e
  rw [hl] at h1
  cases h1
  exact ⟨r', putObj_same hl, hs⟩

theorem env_body {call : CallF} (hreg : ∀ K', RegOK K' P H call) (l : Nat) : Env (KC.plain 0) P H call noIt (some l) := ⟨hreg _, fun g as T Y T1 h => by cases h⟩

/-- ONE ROUND. -/
theorem round_ok {a b : Code} (iha : ExecOK P H call a) (ihb : ExecOK P H call b) (hreg : ∀ K', RegOK K' P H call) {n : Nat} {kp : Keep} {bi l n0 q : Nat} {rec0 : Loop} {tm0 : List IV} {tmps0 : Array Value} {ps : Array Tmp}
    (hrec : rec0.params = ps ∧ rec0.tmps = tmps0 ∧ rec0.assign = a ∧ rec0.body = b) (hbq : bi < q) (hc : ∀ x ∈ tm0, noVer x = true) (hr : ∀ x ∈ tm0, ∀ c ∈ refs x, c < q) :
    YieldOK (loopKC n0 q bi l rec0 tm0 tmps0 hbq hc hr) P H (aY bi tm0 ps.toList (fun p s => aexec P H call noIt n p kp a s) (fun p s => aexec P H call noIt n p kp b s)) := by
  intro as T r T1 h
  unfold aY at h
  split at h
  · rename_i b' xs
    split at h
    · rename_i hbl hTb
      simp only [Bool.and_eq_true] at hbl
      have hb' := Nat.eq_of_beq_eq_true hbl.1
      have hlen := Nat.eq_of_beq_eq_true hbl.2
      subst hb'
      split at h
      · rename_i t T2 hin
        cases h
        refine ⟨b', xs, rfl, ⟨_, hTb⟩, ?_⟩
        intro Γ w l1 vs hi hT hgl hG hρ hxs
        obtain ⟨T3, hrun, hT2⟩ := inAll_some hin
        obtain ⟨hG1, hG2, hG3⟩ := hG
        obtain ⟨hρ', r, hrl, hst⟩ := hG2 _ (by rw [hT]; exact hTb)
        rw [hρ] at hρ'
        cases hρ'
        obtain ⟨g0, r0, k1, k2, ⟨k3, k3'⟩, k4⟩ := hi.lp b' _ (by rw [hT]; exact hTb)
        rw [hρ] at k1
        cases k1
        rw [hrl] at k2
        cases k2
        have hp : r.params = ps := by rw [hst]; exact hrec.1
        have ht : r.tmps = tmps0 := by rw [hst]; exact hrec.2.1
        have ha : r.assign = a := by rw [hst]; exact hrec.2.2.1
        have hb : r.body = b := by rw [hst]; exact hrec.2.2.2
        have hvl := repL_len _ _ hxs
        refine ⟨_, _, _, _, run_yield hrl (by rw [hp]; simp [hvl, hlen]), fun nn => ?_⟩
        rw [hp, ht, ha, hb]
        subst hT
        -- the round's context
        have hi1 := all_inv hi
        have htm1 : TmRep (allOf Γ) w tm0 tmps0 := ⟨hG3.1, fun t x hx => all_calm hi (hc x (List.mem_of_getElem? hx)) (hG3.2 t x hx)⟩
        have htm2 := setPs_rep ps.toList tm0 tmps0 _ vs htm1 (all_ren hi hxs)
        have hfold : (ps.zip vs.toArray).foldl (fun tmps (x : Tmp × Value) => tmps.setIfInBounds x.1 x.2) tmps0 = (ps.toList.zip vs).foldl (fun t (x : Tmp × Value) => t.setIfInBounds x.1 x.2) tmps0 := by
          rw [← Array.foldl_toList]
          simp
        unfold aRound at hrun
        split at hrun
        · rename_i s1 hasg
          split at hrun
          · rename_i hs1b
            split at hrun
            · rename_i e s2 hbod
              split at hrun
              · rename_i hs2b
                have hnl : ((List.range Γ.T.length).map (renB false 0 (idx (List.range Γ.T.length)) Γ.T)).length = Γ.T.length := by simp
                rw [hnl] at hasg hbod
                refine roundIn_of_wpIn trivial ?_
                have hlt : b' < Γ.T.length := hG1
                have hρ1 : (allOf Γ).ρ[b']? = some (some l) := all_rho hlt hρ
                have hgl1 : GlOK H (allOf Γ) w := fun g x hx => RepC.mono (fun g h => ⟨all_ok g h, rfl⟩) _ _ (hgl g x hx)
                have hsat : Sat (KC.plain 0) H (allOf Γ) w { tm := setPs tm0 ps.toList (renL false 0 (idx (List.range Γ.T.length)) Γ.T xs), bx := (List.range Γ.T.length).map (renB false 0 (idx (List.range Γ.T.length)) Γ.T) }
                    { tmps := (ps.zip vs.toArray).foldl (fun tmps (x : Tmp × Value) => tmps.setIfInBounds x.1 x.2) tmps0, defers := [] } := ⟨hi1, all_T, by rw [hfold]; exact htm2, hgl1, DfOK.nil _ _ _, trivial⟩
                have hno : NoGd (setPs tm0 ps.toList (renL false 0 (idx (List.range Γ.T.length)) Γ.T xs)) := by
                  refine setPs_nogd _ _ _ (fun t j w c y hy => ?_) (renL_nogd _)
                  have := hc _ (List.mem_of_getElem? hy)
                  simp [noVer] at this
                have hf0 : Fr Γ.T.length (allOf Γ) w (allOf Γ) w := Fr.refl hi1 (by rw [all_len]; exact Nat.le_refl _)
                have env := env_body (P := P) (H := H) hreg l
                refine iha (KC.plain 0) noIt (some l) nn n Γ.T.length Γ.T.length kp (allOf Γ) w env (Nat.zero_le _) (Nat.zero_le _) (Nat.le_refl _) _ _ _ (allOf Γ) w _ _ hasg hf0 hsat hno ?_
                intro a1 w1 Γ2 hf2 hs2 hn2
                -- the record is busy
                have hT2b : Γ2.T[b']? = some (.lp .ready) := by rw [hs2.T]; exact hs1b
                obtain ⟨_, _, m1⟩ := hf2.lp b' _ hlt hT2b
                have hρ2 : Γ2.ρ[b']? = some (some l) := m1.trans hρ1
                obtain ⟨g1, r1, n1, n2, ⟨n3, n3'⟩, n4⟩ := hf2.inv.lp b' _ hT2b
                rw [hρ2] at n1
                cases n1
                obtain ⟨r1', q1, q2⟩ := hf2.frm.lps l r hrl
                rw [n2] at q1
                cases q1
                show ∃ w₂, (Instr.beginRound l).run P w1 = .ok () w₂ ∧ _
                refine ⟨_, run_beginRound n2 n3, ?_⟩
                have S3 := lp_step (j' := .busy) (r' := { r1 with state := .busy }) hf2.inv hT2b hρ2 n2 rfl rfl
                have hs3 : Sat (KC.plain 0) H (Γ2.set b' (.lp .busy) (some l)) (w1.putObj l (Obj.loop { r1 with state := .busy })) { tm := s1.tm, bx := s1.bx.set b' (.lp .busy) } a1 :=
                  ⟨S3.inv, by simp only [Cx.set, hs2.T], hs2.tm.ext S3.ext, hs2.gl.ext S3.ext, hs2.df.step hs2.inv S3, trivial⟩
                refine ihb (KC.plain 0) noIt (some l) nn n Γ.T.length Γ.T.length kp (allOf Γ) w env (Nat.zero_le _) (Nat.zero_le _) (Nat.le_refl _) _ _ _ _ _ _ _ hbod (hf2.step S3) hs3 hn2 ?_
                intro a2 w3 Γ4 hf4 hs4 hn4
                have hT4b : Γ4.T[b']? = some (.lp .busy) := by rw [hs4.T]; exact hs2b
                obtain ⟨_, _, m2⟩ := hf4.lp b' _ hlt hT4b
                have hρ4 : Γ4.ρ[b']? = some (some l) := m2.trans hρ1
                obtain ⟨g3, r3, p1, p2, p3, p4⟩ := hf4.inv.lp b' _ hT4b
                rw [hρ4] at p1
                cases p1
                have fin : ∀ (jump : Option Code) (j' : LpS) (T5 : List Blk), (jump = none → j' = .ready) → (∀ c, jump = some c → ∃ e, j' = .done e ∧ exCode e = some c) → T5 = s2.bx.set b' (.lp j') → T3 = T5 → t = jump.isNone →
                    ∃ v w', (Instr.endRound l jump).run P w3 = .ok v w' ∧ ∃ v' Γ', Ending.returned v = .returned v' ∧ Γ'.T = T1 ∧ Step Γ w Γ' w' ∧ Rep Γ' w' (.bool t) v' := by
                  intro jump j' T5 hj1 hj2 hT5 hT35 ht5
                  have S5 := lp_step (j' := j') (r' := { r3 with state := if jump.isNone then .ready else .done, pending := jump }) hf4.inv hT4b hρ4 p2 rfl (by
                    cases jump with
                    | none => rw [hj1 rfl]; exact ⟨rfl, rfl⟩
                    | some c =>
                      obtain ⟨e, rfl, he⟩ := hj2 c rfl
                      exact ⟨rfl, he.symm⟩)
                  obtain ⟨Γ6, h6, S6⟩ := all_back hi (hf4.step S5)
                  refine ⟨_, _, run_endRound jump p2, _, Γ6, rfl, ?_, S6, ?_⟩
                  · rw [h6, hT2, hT35, hT5]
                    simp only [Cx.set, hs4.T]
                  · subst ht5
                    rfl
                cases e with
                | normal =>
                  simp only [Option.some.injEq, Prod.mk.injEq] at hrun
                  obtain ⟨rfl, rfl⟩ := hrun
                  exact fin none .ready _ (fun _ => rfl) (fun c h => by cases h) rfl rfl rfl
                | exit i =>
                  simp only [Option.some.injEq, Prod.mk.injEq] at hrun
                  obtain ⟨rfl, rfl⟩ := hrun
                  exact fin (some (.exit i)) (.done (.exit i)) _ (fun h => by cases h) (fun c h => ⟨_, rfl, h⟩) rfl rfl rfl
                | goto i =>
                  simp only [Option.some.injEq, Prod.mk.injEq] at hrun
                  obtain ⟨rfl, rfl⟩ := hrun
                  exact fin (some (.goto i)) (.done (.goto i)) _ (fun h => by cases h) (fun c h => ⟨_, rfl, h⟩) rfl rfl rfl
                | ret =>
                  simp only [Option.some.injEq, Prod.mk.injEq] at hrun
                  obtain ⟨rfl, rfl⟩ := hrun
                  exact fin (some .ret) (.done .ret) _ (fun h => by cases h) (fun c h => ⟨_, rfl, h⟩) rfl rfl rfl
              · cases hrun
            · cases hrun
          · cases hrun
        · cases hrun
      · cases h
    · cases h
  · cases h
end
end Go.Im

namespace Go.Im
open Go
set_option linter.unusedVariables false
set_option linter.unusedSimpArgs false
set_option linter.unnecessarySimpa false
set_option linter.unusedSectionVars false
section
variable {P : Program} {H : Hint} {call : CallF}

/-- A LOOP OVER A FUNCTION. -/
theorem rf_ok {f : Operand} {ps : Array Tmp} {a b : Code} (iha : ExecOK P H call a) (ihb : ExecOK P H call b) :
    RunOK P H (fun it n p kp s => aexec P H call it n p kp (.rangeFunc f ps a b) s) call fun rr nn Q ac w => (Code.rangeFunc f ps a b).wpIn (FW rr) nn P Q ac w := by
  intro K it rr nn n p p0 kp Γ0 w0 henv hn0 hq hp0 s00 ex s'00 Γ00 w ac Q h hf00 hs00 hn00 k00
  simp only [aexec] at h
  obtain ⟨Γ, hf, hs, hn⟩ := norm_ok (kp := kp) hq hp0 hf00 hs00 hn00
  generalize norm p kp s00 = s at hs hn h
  unfold arf at h
  split at h
  · rename_i g cap hev
    split at h
    rotate_left
    · cases h
    rename_i ex1 s' h1
    cases h
    have k : ∀ a' w' Γ', Fr p0 Γ0 w0 Γ' w' → Sat K H Γ' w' s' a' → NoGd s'.tm → Q (exOf ex) a' w' := by
      intro a' w' Γ' hf' hs' hn'
      obtain ⟨Γ2, g1, g2, g3⟩ := norm_ok (kp := kp) hq hp0 hf' hs' hn'
      exact k00 a' w' Γ2 g1 g2 g3
    have h := h1
    clear h1
    unfold aRF at h
    split at h
    · rename_i u T2 hin
      obtain ⟨T1, hrun, hT2⟩ := inAll_some hin
      obtain ⟨T1', hit, hT1⟩ := Option.map_eq_some_iff.1 hrun
      simp only [Prod.mk.injEq] at hT1
      obtain ⟨_, rfl⟩ := hT1
      obtain ⟨rfl, hregs, ⟨fn, hfn, hname, hbody⟩, hsem⟩ := henv.its _ _ _ _ _ hit
      have hat : At H Γ w s ac [] := hs.at (ChOK.nil _)
      have hv := ev_rep hat hev
      simp only [Rep] at hv
      obtain ⟨cs, hv, hcs⟩ := hv
      refine wpIn_rangeFunc ?_
      intro fid _
      obtain ⟨rec0, hrec⟩ : ∃ rec0 : Loop, rec0 = { state := .ready, pending := none, fn := fid, tmps := ac.tmps, params := ps, assign := a, body := b, defers := w.heap.size } := ⟨_, rfl⟩
      obtain ⟨w1, hw1⟩ : ∃ w1, (w.alloc (.deferred (some []))).alloc (.loop rec0) = w1 := ⟨_, rfl⟩
      have hl1 : w1.heap[w.heap.size + 1]? = some (Obj.loop rec0) := by
        rw [← hw1]; have := World.alloc_heap_new (w.alloc (.deferred (some []))) (.loop rec0); rwa [World.size_alloc] at this
      have hD1 : w1.heap[w.heap.size]? = some (Obj.deferred (some [])) := by
        rw [← hw1]; exact (Go.RowKit.Below.heap_alloc _ _ _ (by simp)).trans (World.alloc_heap_new w _)
      have hold : ∀ g, g < w.heap.size → w1.heap[g]? = w.heap[g]? := by
        intro g hg
        rw [← hw1]
        exact (Go.RowKit.Below.heap_alloc _ _ _ (by simp; omega)).trans (Go.RowKit.Below.heap_alloc _ _ _ hg)
      have hsz : w1.heap.size = w.heap.size + 2 := by rw [← hw1]; simp
      have hquiet : Quiet w w1 := by rw [← hw1]; exact ⟨rfl, rfl, rfl, by simp; omega⟩
      have hnok : ¬ Γ.ok (w.heap.size + 1) := fun h => by have := hs.inv.okb _ h; omega
      have S1 : Step Γ w (Γ.add (.lp .ready) (some (w.heap.size + 1))) w1 :=
        step_new hs.inv hquiet hold (fun g e => by cases e; omega) ⟨_, rec0, rfl, hl1, by rw [hrec]; exact ⟨rfl, rfl⟩, hnok⟩
      obtain ⟨Γa, hΓa⟩ : ∃ Γa, Γ.add (.lp .ready) (some (w.heap.size + 1)) = Γa := ⟨_, rfl⟩
      rw [hΓa] at S1
      have hTa : Γa.T = s.bx ++ [.lp .ready] := by rw [← hΓa]; simp [Cx.add, hs.T]
      have hla : Γa.T.length = s.bx.length + 1 := by rw [hTa]; simp
      have hρa : Γa.ρ[s.bx.length]? = some (some (w.heap.size + 1)) := by
        rw [← hΓa]
        simp only [Cx.add]
        rw [List.getElem?_append_right (by rw [hs.inv.len, hs.T]; exact Nat.le_refl _)]
        simp [hs.inv.len, hs.T]
      have hTab : Γa.T[s.bx.length]? = some (.lp .ready) := by rw [hTa]; simp
      have htmc : TmRep Γa w1 (s.tm.map calm) ac.tmps := by
        have ht := hs.tm.ext S1.ext
        refine ⟨by simpa using ht.1, fun t x hx => ?_⟩
        simp only [List.getElem?_map] at hx
        obtain ⟨y, hy, rfl⟩ := Option.map_eq_some_iff.1 hx
        rcases calm_cases y with e | e
        · rw [e]; exact ht.2 t y hy
        · rw [e]; trivial
      have hcalm : ∀ x ∈ s.tm.map calm, noVer x = true := by
        intro x hx
        obtain ⟨y, _, rfl⟩ := List.mem_map.1 hx
        exact calm_noVer y
      have hcref : ∀ x ∈ s.tm.map calm, ∀ c ∈ refs x, c < s.bx.length + 1 := by
        intro x hx c hc
        obtain ⟨i, hi, e⟩ := List.getElem_of_mem hx
        have := refs_lt x _ (hcalm x hx) (htmc.2 i x (by rw [← e]; exact List.getElem?_eq_getElem hi)) c hc
        omega
      have hKY := round_ok (n := n) (kp := kp) (n0 := w1.heap.size) iha ihb hregs (bi := s.bx.length) (l := w.heap.size + 1) (rec0 := rec0) (tm0 := s.tm.map calm) (tmps0 := ac.tmps) (ps := ps) (by rw [hrec]; exact ⟨rfl, rfl, rfl, rfl⟩) (Nat.lt_succ_self _) hcalm hcref
      have hgl1 : GlOK H (allOf Γa) w1 := fun g x hx => RepC.mono (fun g h => ⟨all_ok g h, rfl⟩) _ _ ((hs.gl.ext S1.ext) g x hx)
      have hyf : Rep Γa w1 (.yf s.bx.length) (.func (.yield (w.heap.size + 1)) #[] #[]) := by
        simp only [Rep, RefY]
        exact ⟨by omega, rfl, fun j hj => ⟨_, hρa, rfl⟩⟩
      have hargs : RepL (allOf Γa) w1 (.yf s.bx.length :: renL false 0 (idx (List.range (s.bx.length + 1))) (s.bx ++ [.lp .ready]) cap) (.func (.yield (w.heap.size + 1)) #[] #[] :: cs) := by
        have := all_ren (xs := .yf s.bx.length :: cap) (vs := .func (.yield (w.heap.size + 1)) #[] #[] :: cs) S1.inv (by
          simp only [RepL]
          exact ⟨_, _, rfl, hyf, RepL.ext S1.ext _ _ hcs⟩)
        rw [hla, hTa] at this
        simp only [renL, ren, idx_range (Nat.lt_succ_self s.bx.length)] at this
        exact this
      have hgood : Good s.bx.length (w.heap.size + 1) rec0 (s.tm.map calm) ac.tmps (allOf Γa) w1 := by
        refine ⟨by rw [all_len]; omega, fun j hj => ⟨all_rho (by omega) hρa, rec0, hl1, Stat.refl _⟩, htmc.1, fun t x hx => all_calm S1.inv (hcalm x (List.mem_of_getElem? hx)) (htmc.2 t x hx)⟩
      have hcalls := hsem (loopKC w1.heap.size (s.bx.length + 1) s.bx.length (w.heap.size + 1) rec0 (s.tm.map calm) ac.tmps (Nat.lt_succ_self _) hcalm hcref) (allOf Γa) w1 (.func (.yield (w.heap.size + 1)) #[] #[] :: cs) rfl
        (by simp [loopKC]) hKY (all_inv S1.inv) (by rw [all_T, hTa]) hgl1 hgood hargs (by
          intro t j u c x hx
          cases t with
          | zero => simp at hx
          | succ t => exact renL_nogd cap t j u c x (by simpa using hx))
      refine ⟨w.heap.size + 1, [{ target := .collected w.heap.size, args := #[] }], w1, { target := .fn (.func g) cs.toArray, args := #[.func (.yield (w.heap.size + 1)) #[] #[]] }, w1, g,
        #[.func (.yield (w.heap.size + 1)) #[] #[]] ++ cs.toArray, w1, ?_, ?_, fun _ _ => trivial, ?_, fun hd => by simp [FW] at hd, ?_⟩
      · rw [← hw1, hrec]
        exact run_enterLoop_outer _ _ _ _ _
      · have hv' : ac.eval f = .func (.func g) #[] cs.toArray := hv
        simp only [resolve, hv']
        simp [go_sem]
      · obtain ⟨c0, hb0⟩ := Option.isSome_iff_exists.1 hbody
        simp [invoke, go_sem, callFunc, hfn, hname, hb0]
      · have e1 : (#[.func (.yield (w.heap.size + 1)) #[] #[]] : Array Value) ++ cs.toArray = (Value.func (.yield (w.heap.size + 1)) #[] #[] :: cs).toArray := by
          apply Array.ext'
          simp
        rw [e1]
        refine callsIn_fw.2 (Calls.mono hcalls ?_)
        rintro e w2 ⟨v, Γ1, rfl, h1, h2⟩
        have hlen : ((List.range (s.bx ++ [Blk.lp .ready]).length).map (renB false 0 (idx (List.range (s.bx ++ [Blk.lp .ready]).length)) (s.bx ++ [Blk.lp .ready]))).length = Γa.T.length := by simp [hTa]
        rw [hlen] at h2
        obtain ⟨Γ2, h3, S2⟩ := all_back S1.inv h2
        have hT2' : Γ2.T = T2 := by rw [h3, h1, hT2, hTa]
        have main : ∀ (j : LpS) (e : Ex), T2[s.bx.length]? = some (.lp j) → (j = .ready ∧ e = .normal ∨ j = .done e) → s' = { tm := s.tm, bx := T2.set s.bx.length .dead } → ex = e →
            rangePost (FW none) nn P (w.heap.size + 1) Q { ac with defers := [{ target := .collected w.heap.size, args := #[] }] ++ ac.defers } (.returned v) w2 := by
          intro j e hj hje hs' hex
          subst hex hs'
          have hjT : Γ2.T[s.bx.length]? = some (.lp j) := by rw [hT2']; exact hj
          obtain ⟨j0, m1, m2⟩ := S2.ext.lp s.bx.length j (by omega) hjT
          have hρ2 := m2.trans hρa
          obtain ⟨g0, r0, k1, k2, k3, k4⟩ := S2.inv.lp s.bx.length j hjT
          rw [hρ2] at k1
          cases k1
          have hnb : r0.state ≠ .busy := by
            rcases hje with ⟨rfl, _⟩ | rfl
            · rw [k3.1]; simp
            · rw [k3.1]; simp
          have hpend : r0.pending = exCode ex := by
            rcases hje with ⟨rfl, rfl⟩ | rfl
            · exact k3.2
            · exact k3.2
          have S3 := lp_dead (r' := { r0 with state := .exhausted }) S2.inv hjT hρ2 k2 rfl
          have hdf1 : DfOK K.n0 Γa w1 ([{ target := .collected w.heap.size, args := #[] }] ++ ac.defers) := by
            obtain ⟨Ds, d1, d2, d3⟩ := hs.df.step hs.inv S1
            refine ⟨w.heap.size :: Ds, by rw [d1]; rfl, List.nodup_cons.2 ⟨fun hm => ?_, d2⟩, fun D hD => ?_⟩
            · obtain ⟨Ds0, e1, e2, e3⟩ := hs.df
              have hDD : Ds0 = Ds := by
                have := e1.symm.trans d1
                exact List.map_inj_right (fun a b h => by simpa using h) |>.1 this
              subst hDD
              have := (Array.getElem?_eq_some_iff.1 (e3 _ hm).2.1).1
              omega
            · rcases List.mem_cons.1 hD with rfl | hD
              · refine ⟨Nat.le_trans hn0 hf.frm.size, hD1, fun hok => ?_⟩
                rcases S1.okp _ hok with h | h | h
                · have := hs.inv.okb _ h; omega
                · have := own_lt hs.inv h; omega
                · rw [← hΓa] at hok
                  have := hs.inv.okb _ hok
                  omega
              · exact d3 D hD
          have S12 := S1.trans S2
          have S123 := S12.trans S3
          have hsat : Sat K H (Γ2.set s.bx.length .dead (some (w.heap.size + 1))) (w2.putObj (w.heap.size + 1) (Obj.loop { r0 with state := .exhausted })) { tm := s.tm, bx := T2.set s.bx.length .dead }
              { ac with defers := [{ target := .collected w.heap.size, args := #[] }] ++ ac.defers } :=
            ⟨S3.inv, by simp only [Cx.set, hT2'], hs.tm.ext S123.ext, hs.gl.ext S123.ext, (hdf1.step S1.inv S2).step S2.inv S3, K.step _ _ _ _ hs.inv hs.gd S123⟩
          have hfin := k _ _ _ (hf.step S123) hsat hn
          refine ⟨_, _, run_endLoop k2 hnb, ?_⟩
          have hm : ∀ (jp : Option Code) (A : Act) (W : World), jp = exCode ex → Q (exOf ex) A W → (match jp with
              | none => Q .normal A W
              | some c => c.wpIn (FW none) nn P Q A W) := by
            rintro jp A W rfl hQ
            cases ex with
            | normal => exact hQ
            | exit i => exact wpIn_exit hQ
            | goto i => exact wpIn_goto hQ
            | ret => exact wpIn_ret hQ
          exact hm _ _ _ hpend hfin
        split at h
        · rename_i hj
          cases h
          exact main .ready .normal hj (.inl ⟨rfl, rfl⟩) rfl rfl
        · rename_i e hj
          simp only [Option.some.injEq, Prod.mk.injEq] at h
          exact main (.done e) e hj (.inr rfl) h.2.symm h.1.symm
        · cases h
    · cases h
  · cases h

theorem wp_afrom_none {c : Code} (hno : ∀ (it : ItF) (n p : Nat) (kp : Keep) (l : Nat) (s : St), afrom P H call it n p kp l c s = none) : FromOK P H call c := by
  intro l K it rr nn n p p0 kp Γ0 w0 henv hn0 hq hp0 s ex s' Γ w a Q h
  simp only [hno] at h
  cases h

theorem exec_both : ∀ c : Code, ExecOK P H call c ∧ FromOK P H call c := by
  intro c
  induction c with
  | skip =>
    refine ⟨?_, wp_afrom_none fun _ _ _ _ _ _ => by simp [afrom]⟩
    intro K it rr nn n p p0 kp Γ0 w0 henv hn0 hq hp0 s ex s' Γ w a Q h hf hs hn k
    simp only [aexec, Option.some.injEq, Prod.mk.injEq] at h
    obtain ⟨rfl, rfl⟩ := h
    exact wpIn_skip (k a w Γ hf hs hn)
  | region id ops draw =>
    refine ⟨?_, wp_afrom_none fun _ _ _ _ _ _ => by simp [afrom]⟩
    intro K it rr nn n p p0 kp Γ0 w0 henv hn0 hq hp0 s ex s' Γ w a Q h hf hs hn k
    simp only [aexec] at h
    split at h
    · rename_i s1 h1
      simp only [Option.some.injEq, Prod.mk.injEq] at h
      obtain ⟨rfl, rfl⟩ := h
      exact henv.reg rr nn id ops draw s _ Γ w a Q h1 hs hn fun a' w' Γ' hst hs' hn' => k a' w' Γ' (hf.step hst) hs' hn'
    · cases h
  | seq x y ihx ihy =>
    refine ⟨?_, ?_⟩
    · intro K it rr nn n p p0 kp Γ0 w0 henv hn0 hq hp0 s ex s' Γ w a Q h hf hs hn k
      simp only [aexec] at h
      refine wpIn_seq ?_
      split at h
      · rename_i s1 h1
        exact ihx.1 K it rr nn n p p0 kp Γ0 w0 henv hn0 hq hp0 s _ s1 Γ w a _ h1 hf hs hn fun a' w' Γ' hf' hs' hn' => ihy.1 K it rr nn n p p0 kp Γ0 w0 henv hn0 hq hp0 s1 ex s' Γ' w' a' Q h hf' hs' hn' k
      · rename_i hne
        refine ihx.1 K it rr nn n p p0 kp Γ0 w0 henv hn0 hq hp0 s ex s' Γ w a _ h hf hs hn fun a' w' Γ' hf' hs' hn' => ?_
        cases ex with
        | normal => exact absurd h (hne s')
        | _ => exact k a' w' Γ' hf' hs' hn'
    · intro l K it rr nn n p p0 kp Γ0 w0 henv hn0 hq hp0 s ex s' Γ w a Q h hf hs hn k
      simp only [afrom] at h
      split at h
      · rename_i hl
        have key : ∀ (e : Ex) (s1 : St), afrom P H call it n p kp l x s = some (e, s1) → (∀ a' w' Γ', Fr p0 Γ0 w0 Γ' w' → Sat K H Γ' w' s1 a' → NoGd s1.tm → Exit.then (y.wpIn (FW rr) nn P Q) Q (exOf e) a' w') → ∃ rest, findLabel (.seq x y) l = some rest ∧ rest.wpIn (FW rr) nn P Q a w := by
          intro e s1 h1 h2
          obtain ⟨rest, hr, hw⟩ := ihx.2 l K it rr nn n p p0 kp Γ0 w0 henv hn0 hq hp0 s e s1 Γ w a _ h1 hf hs hn h2
          exact ⟨.seq rest y, by simp only [findLabel, hr], wpIn_seq hw⟩
        split at h
        · rename_i s1 h1
          exact key _ _ h1 fun a' w' Γ' hf' hs' hn' => ihy.1 K it rr nn n p p0 kp Γ0 w0 henv hn0 hq hp0 s1 ex s' Γ' w' a' Q h hf' hs' hn' k
        · rename_i hne
          refine key _ _ h fun a' w' Γ' hf' hs' hn' => ?_
          cases ex with
          | normal => exact absurd h (hne s')
          | _ => exact k a' w' Γ' hf' hs' hn'
      · rename_i hl
        obtain ⟨rest, hr, hw⟩ := ihy.2 l K it rr nn n p p0 kp Γ0 w0 henv hn0 hq hp0 s ex s' Γ w a Q h hf hs hn k
        exact ⟨rest, by simp only [findLabel, (hasLabel_iff l x).2 hl, hr], hw⟩
  | cond c x y ihx ihy =>
    refine ⟨?_, wp_afrom_none fun _ _ _ _ _ _ => by simp [afrom]⟩
    intro K it rr nn n p p0 kp Γ0 w0 henv hn0 hq hp0 s ex s' Γ w a Q h hf hs hn k
    simp only [aexec] at h
    have hat : At H Γ w s a [] := hs.at (ChOK.nil _)
    split at h
    · rename_i hc
      exact wpIn_cond_true (rep_bool (ev_rep hat hc)) (ihx.1 K it rr nn n p p0 kp Γ0 w0 henv hn0 hq hp0 s ex s' Γ w a Q h hf hs hn k)
    · rename_i hc
      exact wpIn_cond_false (rep_bool (ev_rep hat hc)) (ihy.1 K it rr nn n p p0 kp Γ0 w0 henv hn0 hq hp0 s ex s' Γ w a Q h hf hs hn k)
    · cases h
  | block id b ih =>
    refine ⟨?_, wp_afrom_none fun _ _ _ _ _ _ => by simp [afrom]⟩
    intro K it rr nn n p p0 kp Γ0 w0 henv hn0 hq hp0 s ex s' Γ w a Q h hf hs hn k
    simp only [aexec] at h
    refine wpIn_block ?_
    split at h
    · rename_i i s1 h1
      refine ih.1 K it rr nn n p p0 kp Γ0 w0 henv hn0 hq hp0 s _ s1 Γ w a _ h1 hf hs hn fun a' w' Γ' hf' hs' hn' => ?_
      split at h
      · rename_i he
        simp only [Option.some.injEq, Prod.mk.injEq] at h
        obtain ⟨rfl, rfl⟩ := h
        simp only [exOf, Exit.inBlock, he, if_true]
        exact k a' w' Γ' hf' hs' hn'
      · rename_i he
        simp only [Option.some.injEq, Prod.mk.injEq] at h
        obtain ⟨rfl, rfl⟩ := h
        simp only [exOf, Exit.inBlock, he, if_false]
        exact k a' w' Γ' hf' hs' hn'
    · rename_i hne
      refine ih.1 K it rr nn n p p0 kp Γ0 w0 henv hn0 hq hp0 s ex s' Γ w a _ h hf hs hn fun a' w' Γ' hf' hs' hn' => ?_
      cases ex with
      | exit i => exact absurd h (hne i s')
      | _ => exact k a' w' Γ' hf' hs' hn'
  | loop b ih =>
    refine ⟨?_, wp_afrom_none fun _ _ _ _ _ _ => by simp [afrom]⟩
    intro K it rr nn n p p0 kp Γ0 w0 henv hn0 hq hp0 s ex s' Γ w a Q h hf hs hn k
    simp only [aexec] at h
    obtain ⟨Γ1, h1, h2, h3⟩ := norm_ok (kp := kp) hq hp0 hf hs hn
    refine wpIn_loop_fuel (fun m a w => ∃ (s : St) (Γ : Cx), aloop p kp (aexec P H call it n p kp b) m s = some (ex, s') ∧ Fr p0 Γ0 w0 Γ w ∧ Sat K H Γ w s a ∧ NoGd s.tm) ?_ ?_ n a w ⟨_, Γ1, h, h1, h2, h3⟩
    · rintro a w ⟨s, Γ, h, _⟩
      simp [aloop] at h
    · rintro m a w ⟨s, Γ, h, hf, hs, hn⟩
      simp only [aloop] at h
      split at h
      · rename_i s1 h1
        refine ih.1 K it rr nn n p p0 kp Γ0 w0 henv hn0 hq hp0 s _ s1 Γ w a _ h1 hf hs hn fun a' w' Γ' hf' hs' hn' => ?_
        obtain ⟨Γ2, g1, g2, g3⟩ := norm_ok (kp := kp) hq hp0 hf' hs' hn'
        exact ⟨_, Γ2, h, g1, g2, g3⟩
      · rename_i e1 s1 hne h1
        simp only [Option.some.injEq, Prod.mk.injEq] at h
        obtain ⟨rfl, rfl⟩ := h
        refine ih.1 K it rr nn n p p0 kp Γ0 w0 henv hn0 hq hp0 s e1 s1 Γ w a _ h1 hf hs hn fun a' w' Γ' hf' hs' hn' => ?_
        obtain ⟨Γ2, g1, g2, g3⟩ := norm_ok (kp := kp) hq hp0 hf' hs' hn'
        cases e1 with
        | normal => exact (hne rfl).elim
        | _ => exact k a' w' Γ2 g1 g2 g3
      · cases h
  | exit id =>
    refine ⟨?_, wp_afrom_none fun _ _ _ _ _ _ => by simp [afrom]⟩
    intro K it rr nn n p p0 kp Γ0 w0 henv hn0 hq hp0 s ex s' Γ w a Q h hf hs hn k
    simp only [aexec, Option.some.injEq, Prod.mk.injEq] at h
    obtain ⟨rfl, rfl⟩ := h
    exact wpIn_exit (k a w Γ hf hs hn)
  | label l =>
    refine ⟨?_, ?_⟩
    · intro K it rr nn n p p0 kp Γ0 w0 henv hn0 hq hp0 s ex s' Γ w a Q h hf hs hn k
      simp only [aexec, Option.some.injEq, Prod.mk.injEq] at h
      obtain ⟨rfl, rfl⟩ := h
      exact wpIn_label (k a w Γ hf hs hn)
    · intro l' K it rr nn n p p0 kp Γ0 w0 henv hn0 hq hp0 s ex s' Γ w a Q h hf hs hn k
      simp only [afrom] at h
      split at h
      · rename_i e
        simp only [Option.some.injEq, Prod.mk.injEq] at h
        obtain ⟨rfl, rfl⟩ := h
        exact ⟨.skip, by simp [findLabel, e], wpIn_skip (k a w Γ hf hs hn)⟩
      · cases h
  | goto l =>
    refine ⟨?_, wp_afrom_none fun _ _ _ _ _ _ => by simp [afrom]⟩
    intro K it rr nn n p p0 kp Γ0 w0 henv hn0 hq hp0 s ex s' Γ w a Q h hf hs hn k
    simp only [aexec, Option.some.injEq, Prod.mk.injEq] at h
    obtain ⟨rfl, rfl⟩ := h
    exact wpIn_goto (k a w Γ hf hs hn)
  | ret =>
    refine ⟨?_, wp_afrom_none fun _ _ _ _ _ _ => by simp [afrom]⟩
    intro K it rr nn n p p0 kp Γ0 w0 henv hn0 hq hp0 s ex s' Γ w a Q h hf hs hn k
    simp only [aexec, Option.some.injEq, Prod.mk.injEq] at h
    obtain ⟨rfl, rfl⟩ := h
    exact wpIn_ret (k a w Γ hf hs hn)
  | scope b ih =>
    refine ⟨?_, wp_afrom_none fun _ _ _ _ _ _ => by simp [afrom]⟩
    intro K it rr nn n p p0 kp Γ0 w0 henv hn0 hq hp0 s ex s' Γ w a Q h hf hs hn k
    simp only [aexec] at h
    have pass : ∀ m l a w, (∃ (s : St) (Γ : Cx), agoto p kp (fun l s => afrom P H call it n p kp l b s) (m + 1) l s = some (ex, s') ∧ Fr p0 Γ0 w0 Γ w ∧ Sat K H Γ w s a ∧ NoGd s.tm) →
        ∃ rest, findLabel b l = some rest ∧ rest.wpIn (FW rr) nn P (Exit.jumps (fun l a w => ∃ (s : St) (Γ : Cx), agoto p kp (fun l s => afrom P H call it n p kp l b s) m l s = some (ex, s') ∧ Fr p0 Γ0 w0 Γ w ∧ Sat K H Γ w s a ∧ NoGd s.tm) Q) a w := by
      rintro m l a w ⟨s, Γ, h, hf, hs, hn⟩
      simp only [agoto] at h
      split at h
      · rename_i l' s1 h1
        refine ih.2 l K it rr nn n p p0 kp Γ0 w0 henv hn0 hq hp0 s _ s1 Γ w a _ h1 hf hs hn fun a' w' Γ' hf' hs' hn' => ?_
        obtain ⟨Γ2, g1, g2, g3⟩ := norm_ok (kp := kp) hq hp0 hf' hs' hn'
        exact ⟨_, Γ2, h, g1, g2, g3⟩
      · rename_i hne
        refine ih.2 l K it rr nn n p p0 kp Γ0 w0 henv hn0 hq hp0 s ex s' Γ w a _ h hf hs hn fun a' w' Γ' hf' hs' hn' => ?_
        cases ex with
        | goto i => exact absurd h (hne i s')
        | _ => exact k a' w' Γ' hf' hs' hn'
    refine wpIn_scope_fuel (fun m l a w => ∃ (s : St) (Γ : Cx), agoto p kp (fun l s => afrom P H call it n p kp l b s) m l s = some (ex, s') ∧ Fr p0 Γ0 w0 Γ w ∧ Sat K H Γ w s a ∧ NoGd s.tm) ?_ pass (m := n) ?_
    · rintro l a w ⟨s, Γ, h, _⟩
      simp [agoto] at h
    · split at h
      · rename_i l s1 h1
        refine ih.1 K it rr nn n p p0 kp Γ0 w0 henv hn0 hq hp0 s _ s1 Γ w a _ h1 hf hs hn fun a' w' Γ' hf' hs' hn' => ?_
        obtain ⟨Γ2, g1, g2, g3⟩ := norm_ok (kp := kp) hq hp0 hf' hs' hn'
        exact ⟨_, Γ2, h, g1, g2, g3⟩
      · rename_i hne
        refine ih.1 K it rr nn n p p0 kp Γ0 w0 henv hn0 hq hp0 s ex s' Γ w a _ h hf hs hn fun a' w' Γ' hf' hs' hn' => ?_
        cases ex with
        | goto i => exact absurd h (hne i s')
        | _ => exact k a' w' Γ' hf' hs' hn'
  | rangeFunc f ps a b iha ihb =>
    exact ⟨rf_ok iha.1 ihb.1, wp_afrom_none fun _ _ _ _ _ _ => by simp [afrom]⟩
  | refuse why =>
    refine ⟨?_, wp_afrom_none fun _ _ _ _ _ _ => by simp [afrom]⟩
    intro K it rr nn n p p0 kp Γ0 w0 henv hn0 hq hp0 s ex s' Γ w a Q h hf hs hn k
    simp [aexec] at h
end
end Go.Im

namespace Go.Im
open Go
set_option linter.unusedVariables false
set_option linter.unusedSimpArgs false
set_option linter.unnecessarySimpa false
set_option linter.unusedSectionVars false

/-- Two states alike where some operands look. -/
def Alike (tm tm' : List IV) (xs : List Operand) : Prop := ∀ t, Operand.tmp t ∈ xs → tm[t]? = tm'[t]?

section
variable {P : Program} {H : Hint} {call : CallF} {ops : List Oper} {ch : List (Nat × Bool)} {tm tm' : List IV} {T : List Blk}

theorem ev_alike {x : Operand} (h : Alike tm tm' [x]) : ev H ch { tm := tm, bx := T } x = ev H ch { tm := tm', bx := T } x := by
  cases x with
  | tmp t => simp only [ev, nth?_eq, h t (List.mem_singleton.2 rfl)]
  | _ => rfl

theorem Alike.sub {xs ys : List Operand} (h : Alike tm tm' xs) (hs : ∀ x ∈ ys, x ∈ xs) : Alike tm tm' ys := fun t ht => h t (hs _ ht)

theorem evs_alike : ∀ {xs : List Operand}, Alike tm tm' xs → evs H ch { tm := tm, bx := T } xs = evs H ch { tm := tm', bx := T } xs
  | [], _ => rfl
  | x :: xs, h => by
    simp only [evs]
    rw [ev_alike (h.sub (by simp)), evs_alike (h.sub fun y hy => List.mem_cons_of_mem _ hy)]

theorem optEv_alike {x : Option Operand} (h : Alike tm tm' x.toList) : optEv H ch { tm := tm, bx := T } x = optEv H ch { tm := tm', bx := T } x := by
  cases x with
  | none => rfl
  | some x =>
    simp only [optEv]
    rw [ev_alike h]

/-- An operation hangs on the slots that it reads alone. -/
theorem aop_alike {o : Oper} (h : Alike tm tm' (usesOf o.op)) : aop P H call ops ch o { tm := tm, bx := T } = aop P H call ops ch o { tm := tm', bx := T } := by
  have e : ∀ (ch : List (Nat × Bool)) (x : Operand), x ∈ usesOf o.op → ev H ch { tm := tm, bx := T } x = ev H ch { tm := tm', bx := T } x :=
    fun ch x hx => ev_alike (h.sub (by simpa using hx))
  have es : ∀ xs : List Operand, (∀ x ∈ xs, x ∈ usesOf o.op) → evs H ch { tm := tm, bx := T } xs = evs H ch { tm := tm', bx := T } xs := fun xs hx => evs_alike (h.sub hx)
  have eo : ∀ x : Option Operand, (∀ y ∈ x.toList, y ∈ usesOf o.op) → optEv H ch { tm := tm, bx := T } x = optEv H ch { tm := tm', bx := T } x := fun x hx => optEv_alike (h.sub hx)
  unfold aop
  cases ho : o.op with
  | move x => simp only [oMove]; rw [e _ x (by simp [ho, usesOf])]
  | assign x => simp only [oMove]; rw [e _ x (by simp [ho, usesOf])]
  | pick c x y =>
    simp only [oPick]
    rw [e _ c (by simp [ho, usesOf])]
    have e1 : ∀ ch, ev H ch { tm := tm, bx := T } x = ev H ch { tm := tm', bx := T } x := fun ch => e ch x (by simp [ho, usesOf])
    have e2 : ∀ ch, ev H ch { tm := tm, bx := T } y = ev H ch { tm := tm', bx := T } y := fun ch => e ch y (by simp [ho, usesOf])
    simp only [e1, e2]
  | unOp op t x => simp only [oUn]; rw [e _ x (by simp [ho, usesOf])]
  | binOp op t x y t' => simp only [oBin]; rw [e _ x (by simp [ho, usesOf]), e _ y (by simp [ho, usesOf])]
  | convert s d x => simp only [oConv]; rw [e _ x (by simp [ho, usesOf])]
  | alloc t => rfl
  | box t x => simp only [oBox]; rw [e _ x (by simp [ho, usesOf])]
  | load t x => simp only [oLoad]; rw [e _ x (by simp [ho, usesOf])]
  | store t x y => simp only [oStore]; rw [e _ x (by simp [ho, usesOf]), e _ y (by simp [ho, usesOf])]
  | fieldAddr t x f => simp only [oFieldAddr]; rw [e _ x (by simp [ho, usesOf])]
  | field t x f => simp only [oField]; rw [e _ x (by simp [ho, usesOf])]
  | indexAddr t x y => simp only [oIndexAddr]; rw [e _ x (by simp [ho, usesOf]), e _ y (by simp [ho, usesOf])]
  | index t x y => simp only [oIndex]; rw [e _ x (by simp [ho, usesOf]), e _ y (by simp [ho, usesOf])]
  | slice t x lo hi mx =>
    simp only [oSlice]
    rw [e _ x (by simp [ho, usesOf]), eo lo (fun y hy => by simp only [ho, usesOf, List.mem_cons, List.mem_append]; exact .inr (.inl (.inl hy))),
      eo hi (fun y hy => by simp only [ho, usesOf, List.mem_cons, List.mem_append]; exact .inr (.inl (.inr hy))), eo mx (fun y hy => by simp only [ho, usesOf, List.mem_cons, List.mem_append]; exact .inr (.inr hy))]
  | makeSlice t l c => simp only [oMake]; rw [e _ l (by simp [ho, usesOf])]
  | buildSlice t n parts => simp only [oBuildSlice]; rw [es _ (fun x hx => by simpa only [ho, usesOf] using hx)]
  | build t parts => simp only [oBuild]; rw [es _ (fun x hx => by simpa only [ho, usesOf] using hx)]
  | extract x i => simp only [oExtract]; rw [e _ x (by simp [ho, usesOf])]
  | makeFunc f first cap =>
    simp only [oFunc]
    rw [es _ (fun x hx => by simpa only [ho, usesOf] using hx)]
  | nilCheck x => simp only [oNil]; rw [e _ x (by simp [ho, usesOf])]
  | call c =>
    simp only [oCall]
    rw [es _ (fun x hx => by simp only [ho, usesOf, List.mem_append]; exact .inr hx)]
    cases hc : c.callee with
    | value f => simp only []; rw [e _ f (by simp [ho, usesOf, hc])]; rfl
    | _ => rfl
  | _ => rfl

/-! ### Reads hang on their own blocks -/
variable {T2 : List Blk}
def Same (T T2 : List Blk) (fp : List Nat) : Prop := ∀ b ∈ fp, T2[b]? = T[b]?

theorem rowOf_same {b ver : Nat} (h : T2[b]? = T[b]?) : rowOf T2 b ver = rowOf T b ver := by
  unfold rowOf
  rw [h]

theorem slc_same {x : IV} (h : Same T T2 (refs x)) : slc T2 x = slc T x := by
  cases x with
  | osl b ver => simp only [slc]; rw [rowOf_same (h b (by simp [refs]))]
  | vsl b ver lo n => simp only [slc]; rw [rowOf_same (h b (by simp [refs]))]
  | vsv b lo n => simp only [slc]; rw [h b (by simp [refs])]
  | _ => rfl

theorem slcLen_same {x : IV} (h : Same T T2 (refs x)) : slcLen T2 x = slcLen T x := by
  cases x with
  | vsl b ver lo n => simp only [slcLen]; rw [rowOf_same (h b (by simp [refs]))]
  | vsv b lo n => simp only [slcLen]; rw [h b (by simp [refs])]
  | _ => simp only [slcLen]; rw [slc_same h]

theorem nilEq_same {x : IV} (h : Same T T2 (refs x)) : nilEq T2 x = nilEq T x := by
  cases x with
  | fsl nl => cases nl <;> rfl
  | _ => simp only [nilEq]; rw [slc_same h]

theorem abin_same {op : BinOp} {t : TypeId} {x y : IV} (h : Same T T2 (refs x ++ refs y)) : abin P T2 op t x y = abin P T op t x y := by
  have hx := nilEq_same (T := T) (T2 := T2) (x := x) fun b hb => h b (List.mem_append_left _ hb)
  have hy := nilEq_same (T := T) (T2 := T2) (x := y) fun b hb => h b (List.mem_append_right _ hb)
  have hS : abinS P T2 op t x y = abinS P T op t x y := by
    unfold abinS
    rw [hx, hy]
  cases x <;> cases y <;> first | rfl | exact hS

/-- On another state of the blocks: the same, if it looks the same. -/
def Reads (f : List Blk → R) : Prop := ∀ (T T2 : List Blk) (v : IV) (T' : List Blk) (fp : List Nat), f T = some (v, T', .rd fp) → Same T T2 fp → f T2 = some (v, T2, .rd fp)

theorem reads_const (x : Option IV) (fp : List Nat) : Reads fun T => rdv T fp x := by
  intro T T2 v T' fp' h _
  obtain ⟨y, rfl, e⟩ := rdv_some h
  cases e
  rfl
theorem reads_none : Reads fun _ => none := fun _ _ _ _ _ h => by cases h

theorem reads_ef {f : List Blk → R} (h : ∀ T r, f T = some r → ∃ wr, r.2.2 = .ef wr) : Reads f := by
  intro T T2 v T' fp h1 _
  obtain ⟨wr, hw⟩ := h T _ h1
  cases hw

theorem reads_moved {d : Nat} {x : IV} : Reads fun T => amoved T d x := by
  intro T T2 v T' fp h hs
  simp only at h ⊢
  unfold amoved at h ⊢
  split at h
  · rename_i b off
    split at h
    · rename_i fz cs hb
      obtain ⟨y, e1, e2⟩ := rdv_some h
      cases e1
      cases e2
      rw [hs b (by simp), hb]
      rfl
    · cases h
  · rename_i b ver i off
    split at h
    · rename_i q hrow
      obtain ⟨y, e1, e2⟩ := rdv_some h
      cases e1
      cases e2
      simp only [rowOf_same (hs b (by simp)), hrow]
      rfl
    · cases h
  · obtain ⟨y, e1, e2⟩ := rdv_some h
    cases e1
    cases e2
    rfl
  · cases h

theorem reads_bind {x : Option IV} {f : List Blk → IV → R} (h : ∀ y, Reads fun T => f T y) : Reads fun T => x.bind (f T) := by
  cases x with
  | none => exact fun _ _ _ _ _ h => by cases h
  | some y => exact h y

theorem reads_load {t : TypeId} {x : IV} : Reads fun T => aload P T t x := by
  intro T T2 v T' fp h hs
  simp only at h ⊢
  unfold aload at h ⊢
  split at h
  · rename_i b off
    split at h
    · rename_i fz cs hb
      obtain ⟨y, e1, e2⟩ := rdv_some h
      cases e2
      rw [hs b (by simp), hb]
      simp only [e1]
      rfl
    · cases h
  · rename_i b ver i off
    split at h
    · rename_i e l hrow
      split at h
      · rename_i hil
        obtain ⟨y, e1, e2⟩ := rdv_some h
        cases e2
        simp only [rowOf_same (hs b (by simp)), hrow]
        rw [if_pos hil]
        simp only [e1]
        rfl
      · cases h
    · cases h
  · obtain ⟨y, e1, e2⟩ := rdv_some h
    cases e2
    simp only [e1]
    rfl
  · cases h

theorem reads_indexAddr {t : TypeId} {x ix : IV} : Reads fun T => aindexAddr P T t x ix := by
  intro T T2 v T' fp h hs
  simp only at h ⊢
  unfold aindexAddr at h ⊢
  split at h
  · rename_i k i
    split at h
    · rename_i e ht
      split at h
      · cases h
      · rename_i h0
        try simp only [ht]
        rw [if_neg h0]
        split at h
        · rename_i b ver
          split at h
          · rename_i z l hrow
            split at h
            · split at h
              · rename_i h1 h2
                obtain ⟨y, e1, e2⟩ := rdv_some h
                cases e1; cases e2
                simp only [rowOf_same (hs b (by simp)), hrow]
                rw [if_pos h1, if_pos h2]
                rfl
              · cases h
            · cases h
          · cases h
        · rename_i b ver lo n
          split at h
          · rename_i z l hrow
            split at h
            · split at h
              · rename_i h1 h2
                obtain ⟨y, e1, e2⟩ := rdv_some h
                cases e1; cases e2
                simp only [rowOf_same (hs b (by simp)), hrow]
                rw [if_pos h1, if_pos h2]
                rfl
              · cases h
            · cases h
          · cases h
        · rename_i b lo n
          split at h
          · rename_i fz cs hb
            split at h
            · split at h
              · rename_i h1 h2
                obtain ⟨y, e1, e2⟩ := rdv_some h
                cases e1; cases e2
                simp only [hs b (by simp), hb]
                rw [if_pos h1, if_pos h2]
                rfl
              · cases h
            · cases h
          · cases h
        · split at h
          · split at h
            · rename_i h1 h2
              obtain ⟨y, e1, e2⟩ := rdv_some h
              cases e1; cases e2
              rw [if_pos h1, if_pos h2]
              rfl
            · cases h
          · cases h
        · cases h
    · rename_i len e ht
      split at h
      · cases h
      · rename_i h0
        try simp only [ht]
        rw [if_neg h0]
        split at h
        · rename_i h1
          rw [if_pos h1]
          exact reads_moved T T2 v T' fp h hs
        · cases h
    · cases h
  · cases h

theorem reads_slice {t : TypeId} {x : IV} {lo hi mx : Option IV} : Reads fun T => aslice P T t x lo hi mx := by
  intro T T2 v T' fp h hs
  simp only at h ⊢
  unfold aslice at h ⊢
  split at h
  · rename_i ht
    try simp only [ht]
    split at h
    · split at h
      · rename_i l m b1 b2
        split at h
        · rename_i hb
          obtain ⟨y, e1, e2⟩ := rdv_some h
          cases e1; cases e2
          try simp only [b1, b2]
          rw [if_pos hb]
          rfl
        · cases h
      · cases h
    · cases h
  · rename_i e ht
    try simp only [ht]
    split at h
    · cases h
    · rename_i h0
      rw [if_neg h0]
      have hfp : fp = refs x := by
        repeat' split at h
        all_goals first
          | (cases h; done)
          | (obtain ⟨y, e1, e2⟩ := rdv_some h; cases e2; rfl)
      have hsx : Same T T2 (refs x) := by
        rw [← hfp]; exact hs
      rw [slcLen_same hsx]
      split at h
      · rename_i n hn
        split at h
        · rename_i l m b1 b2
          split at h
          · rename_i hb
            split at h
            · rename_i cut hc
              try simp only [b1, b2, hc]
              rw [if_pos hb]
              split at h
              · split at h
                · rename_i h1
                  obtain ⟨y, e1, e2⟩ := rdv_some h
                  cases e1; cases e2
                  rw [if_pos h1]
                  rfl
                · cases h
              · rename_i b ver
                split at h
                · rename_i z l2 hrow
                  split at h
                  · rename_i h1
                    split at h
                    · obtain ⟨y, e1, e2⟩ := rdv_some h
                      cases e1; cases e2
                      simp only [rowOf_same (hs b (by simp)), hrow]
                      rw [if_pos h1]
                      rfl
                    · cases h
                  · cases h
                · cases h
              · rename_i b ver lo' n'
                split at h
                · rename_i z l2 hrow
                  split at h
                  · rename_i h1
                    split at h
                    · obtain ⟨y, e1, e2⟩ := rdv_some h
                      cases e1; cases e2
                      simp only [rowOf_same (hs b (by simp)), hrow]
                      rw [if_pos h1]
                      rfl
                    · cases h
                  · cases h
                · cases h
              · rename_i b lo' n'
                split at h
                · split at h
                  · rename_i h1
                    obtain ⟨y, e1, e2⟩ := rdv_some h
                    cases e1; cases e2
                    rw [if_pos h1]
                    rfl
                  · cases h
                · cases h
              · cases h
            · cases h
          · cases h
        · cases h
      · cases h
  · rename_i len e ht
    try simp only [ht]
    split at h
    · rename_i l m b off b1 b2
      split at h
      · rename_i fz cs hb
        split at h
        · rename_i h1
          obtain ⟨y, e1, e2⟩ := rdv_some h
          cases e1; cases e2
          simp only [b1, b2, hs b (by simp), hb]
          rw [if_pos h1]
          rfl
        · cases h
      · cases h
    · cases h
  · cases h
end
end Go.Im

namespace Go.Im
open Go
set_option linter.unusedVariables false
set_option linter.unusedSimpArgs false
set_option linter.unnecessarySimpa false
set_option linter.unusedSectionVars false
section
variable {P : Program} {H : Hint} {call : CallF} {ops : List Oper} {ch : List (Nat × Bool)} {tm tm' : List IV} {T T2 : List Blk}

mutual
theorem lend_same : ∀ (x y : IV) (bs : List Nat), lend (fun _ => none) T x = some (y, bs) → Same T T2 bs → lend (fun _ => none) T2 x = some (y, bs)
  | .undef, _, _, h, _ => by simp [lend] at h
  | .int _ _, _, _, h, _ => h
  | .bool _, _, _, h, _ => h
  | .str _, _, _, h, _ => h
  | .nilp, _, _, h, _ => h
  | .nilf, _, _, h, _ => h
  | .nili, _, _, h, _ => h
  | .fsl .., _, _, h, _ => h
  | .fp _, _, _, h, _ => h
  | .gd .., _, _, h, _ => by simp [lend] at h
  | .agg l, _, _, h, hs => by
    simp only [lend] at h ⊢
    obtain ⟨⟨ys, bs⟩, h1, h2⟩ := Option.map_eq_some_iff.1 h
    cases h2
    rw [lendL_same l ys _ h1 hs]
    rfl
  | .tup l, _, _, h, hs => by
    simp only [lend] at h ⊢
    obtain ⟨⟨ys, bs⟩, h1, h2⟩ := Option.map_eq_some_iff.1 h
    cases h2
    rw [lendL_same l ys _ h1 hs]
    rfl
  | .fn g l, _, _, h, hs => by
    simp only [lend] at h ⊢
    obtain ⟨⟨ys, bs⟩, h1, h2⟩ := Option.map_eq_some_iff.1 h
    cases h2
    rw [lendL_same l ys _ h1 hs]
    rfl
  | .osl b ver, _, _, h, hs => by
    simp only [lend] at h ⊢
    split at h
    · rename_i e l hrow
      cases h
      rw [rowOf_same (hs b (by simp)), hrow]
    · cases h
  | .vsl b ver lo n, _, _, h, hs => by
    simp only [lend] at h ⊢
    split at h
    · rename_i e l hrow
      cases h
      rw [rowOf_same (hs b (by simp)), hrow]
    · cases h
  | .vsv b lo n, _, _, h, hs => by
    simp only [lend] at h ⊢
    split at h
    · rename_i fz cs hb
      split at h
      · rename_i hc
        cases h
        rw [hs b (by simp), hb]
        simp only [hc]
      · cases h
    · cases h
  | .ep .., _, _, h, _ => by simp [lend] at h
  | .ptr .., _, _, h, _ => by simp [lend] at h
theorem lendL_same : ∀ (x y : List IV) (bs : List Nat), lendL (fun _ => none) T x = some (y, bs) → Same T T2 bs → lendL (fun _ => none) T2 x = some (y, bs)
  | [], _, _, h, _ => h
  | x :: xs, _, _, h, hs => by
    simp only [lendL] at h ⊢
    split at h
    · rename_i y p ys q h1 h2
      cases h
      rw [lend_same x y p h1 (fun b hb => hs b (List.mem_append_left _ hb)), lendL_same xs ys q h2 (fun b hb => hs b (List.mem_append_right _ hb))]
    · cases h
end

theorem reach_nil {T : List Blk} : ∀ n, reach T n [] = []
  | 0 => rfl
  | n + 1 => by simp only [reach, List.flatMap_nil, addNew]; exact reach_nil n

theorem handed_nil {mv : List Bool} {as : List IV} (h : handed T mv as = []) : handed T2 mv as = [] := by
  unfold handed at h ⊢
  generalize addNew [] _ = L at h ⊢
  have hp := reach_prefix (T := T) 3 L
  rw [h] at hp
  rw [List.prefix_nil.1 hp]
  exact reach_nil 3

theorem reads_doCall {f : FuncId} {as : List IV} : Reads fun T => doCall H call T f as := by
  intro T T2 v T' fp h hs
  simp only at h ⊢
  have hcl : ∀ (as' : List IV) (lent : List Nat) (r : IV) (T1 : List Blk) (r' : IV) (fr : List Nat), handed T (H.mv f) as = [] → lendL (fun _ => none) T as = some (as', lent) → Same T T2 lent → call f as' [] = some (r, T1) → H.keep f = false → frz T1 r = some (r', fr) →
      doCall H call T2 f as = (match scalar r, lent with
        | true, _ => some (r', T2, .rd lent)
        | false, [] => some (r', T2, .rd [])
        | false, _ => some (r', shut T2 lent, .ef lent)) := by
    intro as' lent r T1 r' fr h1 h2 h3 h4 h5 h6
    unfold doCall
    simp only [handed_nil h1, lendL_same as as' lent h2 h3, h4, h5, h6]
    cases scalar r <;> cases lent <;> rfl
  unfold doCall at h
  split at h
  · rename_i hh
    split at h
    · cases h
    · rename_i as' lent hl
      split at h
      · cases h
      · rename_i r T1 hc
        split at h
        · rename_i hk
          split at h
          · cases h
          · rename_i r' fr hf
            by_cases hsc : scalar r = true
            · rw [hsc] at h
              cases h
              rw [hcl as' _ r T1 _ fr hh hl hs hc hk hf, hsc]
            · have hsc : scalar r = false := by simpa using hsc
              rw [hsc] at h
              cases lent with
              | nil =>
                cases h
                rw [hcl as' _ r T1 _ fr hh hl hs hc hk hf, hsc]
              | cons => cases h
        · split at h <;> cases h
  · repeat' split at h
    all_goals cases h

theorem reads_conv {src dst : TypeId} {x : IV} : Reads fun T => aconv P T src dst x := by
  intro T T2 v T' fp h hs
  simp only at h ⊢
  unfold aconv at h ⊢
  split at h
  · exact reads_const _ _ T T2 v T' fp h hs
  · exact reads_const _ _ T T2 v T' fp h hs
  · split at h
    · obtain ⟨y, e1, e2⟩ := rdv_some h
      cases e2
      rw [slc_same hs, e1]
      rfl
    · cases h
  · split at h
    · exact reads_const _ _ T T2 v T' fp h hs
    · cases h
  · split at h
    · split at h
      · cases h
      · cases h
    · cases h
  · cases h

theorem reads_append {ts : List TypeId} {x y : IV} : Reads fun T => aappend P T ts x y := by
  refine reads_ef fun T r h => ?_
  try simp only at h
  unfold aappend at h
  repeat' split at h
  all_goals first
    | (cases h; done)
    | (cases h; exact ⟨_, rfl⟩)

theorem reads_builtin {b : Builtin} {ts : List TypeId} {vs : List IV} : Reads fun T => abuiltin P T b ts vs := by
  intro T T2 v T' fp h hs
  simp only at h ⊢
  unfold abuiltin at h ⊢
  split at h
  · split at h
    · rename_i x
      split at h
      · split at h
        · split at h
          · exact reads_const _ _ T T2 v T' fp h hs
          · cases h
        · obtain ⟨y, e1, e2⟩ := rdv_some h
          cases e2
          rw [slcLen_same hs, e1]
          rfl
        · exact reads_const _ _ T T2 v T' fp h hs
        · cases h
      · cases h
    · cases h
  · split at h
    · exact reads_append T T2 v T' fp h hs
    · cases h
  · split at h
    · exact reads_const _ _ T T2 v T' fp h hs
    · cases h
  · split at h
    · exact reads_const _ _ T T2 v T' fp h hs
    · cases h
  · cases h

theorem ev_T2 {x : Operand} : ev H ch { tm := tm, bx := T2 } x = ev H ch { tm := tm, bx := T } x := by cases x <;> rfl
theorem evs_T2 : ∀ {xs : List Operand}, evs H ch { tm := tm, bx := T2 } xs = evs H ch { tm := tm, bx := T } xs
  | [] => rfl
  | x :: xs => by
    simp only [evs]
    rw [ev_T2 (T := T), evs_T2]
theorem optEv_T2 {x : Option Operand} : optEv H ch { tm := tm, bx := T2 } x = optEv H ch { tm := tm, bx := T } x := by
  cases x with
  | none => rfl
  | some x => simp only [optEv]; rw [ev_T2 (T := T)]

theorem aop_reads {o : Oper} : Reads fun T => aop P H call ops ch o { tm := tm, bx := T } := by
  have k1 : ∀ (f : List Blk → IV → R) (x : Operand), (∀ y, Reads fun T => f T y) → Reads fun T => (ev H ch { tm := tm, bx := T } x).bind (f T) := by
    intro f x hf
    have e : (fun T => (ev H ch { tm := tm, bx := T } x).bind (f T)) = fun T => (ev H ch { tm := tm, bx := [] } x).bind (f T) := by
      funext T
      rw [ev_T2 (T := [])]
    rw [e]
    exact reads_bind hf
  unfold aop
  cases ho : o.op with
  | move x => simp only [oMove]; intro T T2 v T' fp h hs; simp only at h ⊢; simp only [ev_T2 (T := T) (T2 := T2), evs_T2 (T := T) (T2 := T2), optEv_T2 (T := T) (T2 := T2)]; exact reads_const _ _ T T2 v T' fp h hs
  | assign x => simp only [oMove]; intro T T2 v T' fp h hs; simp only at h ⊢; simp only [ev_T2 (T := T) (T2 := T2), evs_T2 (T := T) (T2 := T2), optEv_T2 (T := T) (T2 := T2)]; exact reads_const _ _ T T2 v T' fp h hs
  | pick c x y =>
    simp only [oPick]
    intro T T2 v T' fp h hs
    simp only at h ⊢
    have e1 : ∀ ch x, ev H ch { tm := tm, bx := T2 } x = ev H ch { tm := tm, bx := T } x := fun ch x => ev_T2
    simp only [e1]
    split at h
    · exact reads_const _ _ T T2 v T' fp h hs
    · exact reads_const _ _ T T2 v T' fp h hs
    · cases h
  | unOp op t x => simp only [oUn]; intro T T2 v T' fp h hs; simp only at h ⊢; simp only [ev_T2 (T := T) (T2 := T2), evs_T2 (T := T) (T2 := T2), optEv_T2 (T := T) (T2 := T2)]; exact reads_const _ _ T T2 v T' fp h hs
  | binOp op t x y t' =>
    simp only [oBin]
    intro T T2 v T' fp h hs
    simp only at h ⊢
    simp only [ev_T2 (T := T) (T2 := T2), evs_T2 (T := T) (T2 := T2), optEv_T2 (T := T) (T2 := T2)]
    split at h
    · rename_i p q hp hq
      obtain ⟨z, e1, e2⟩ := rdv_some h
      cases e2
      simp only [abin_same hs, e1]
      rfl
    · cases h
  | convert s d x => simp only [oConv]; exact k1 (fun T y => aconv P T s d y) x fun y => reads_conv
  | alloc t =>
    refine reads_ef fun T r h => ?_
    simp only [oAlloc] at h
    split at h
    · cases h; exact ⟨_, rfl⟩
    · cases h
  | box t x =>
    refine reads_ef fun T r h => ?_
    simp only [oBox] at h
    repeat' split at h
    all_goals first
      | (cases h; done)
      | (cases h; exact ⟨_, rfl⟩)
  | load t x => simp only [oLoad]; exact k1 (fun T y => aload P T t y) x fun y => reads_load
  | store t x y =>
    refine reads_ef fun T r h => ?_
    simp only [oStore] at h
    split at h
    · unfold astore at h
      repeat' split at h
      all_goals first
        | (cases h; done)
        | (cases h; exact ⟨_, rfl⟩)
    · cases h
  | fieldAddr t x f =>
    simp only [oFieldAddr]
    refine k1 (fun T y => afieldAddr P T t y f) x fun y => ?_
    intro T T2 v T' fp h hs
    simp only at h ⊢
    unfold afieldAddr at h ⊢
    split at h
    · split at h
      · split at h
        · cases h
        · rename_i h0
          try rw [if_neg h0]
          exact reads_moved T T2 v T' fp h hs
      · cases h
    · cases h
  | field t x f => simp only [oField]; intro T T2 v T' fp h hs; simp only at h ⊢; simp only [ev_T2 (T := T) (T2 := T2), evs_T2 (T := T) (T2 := T2), optEv_T2 (T := T) (T2 := T2)]; exact reads_const _ _ T T2 v T' fp h hs
  | indexAddr t x y =>
    simp only [oIndexAddr]
    intro T T2 v T' fp h hs
    simp only at h ⊢
    simp only [ev_T2 (T := T) (T2 := T2), evs_T2 (T := T) (T2 := T2), optEv_T2 (T := T) (T2 := T2)]
    split at h
    · exact reads_indexAddr T T2 v T' fp h hs
    · cases h
  | index t x y =>
    simp only [oIndex]
    intro T T2 v T' fp h hs
    simp only at h ⊢
    simp only [ev_T2 (T := T) (T2 := T2), evs_T2 (T := T) (T2 := T2), optEv_T2 (T := T) (T2 := T2)]
    split at h
    · exact reads_const _ _ T T2 v T' fp h hs
    · cases h
  | slice t x lo hi mx =>
    simp only [oSlice]
    intro T T2 v T' fp h hs
    simp only at h ⊢
    simp only [ev_T2 (T := T) (T2 := T2), evs_T2 (T := T) (T2 := T2), optEv_T2 (T := T) (T2 := T2)]
    split at h
    · exact reads_slice T T2 v T' fp h hs
    · cases h
  | makeSlice t l c =>
    refine reads_ef fun T r h => ?_
    simp only [oMake] at h
    obtain ⟨y, _, h⟩ := Option.bind_eq_some_iff.1 h
    unfold amake at h
    repeat' split at h
    all_goals first
      | (cases h; done)
      | (cases h; exact ⟨_, rfl⟩)
  | buildSlice t n parts =>
    refine reads_ef fun T r h => ?_
    simp only [oBuildSlice] at h
    obtain ⟨y, _, h⟩ := Option.bind_eq_some_iff.1 h
    unfold abuildSlice at h
    repeat' split at h
    all_goals first
      | (cases h; done)
      | (cases h; exact ⟨_, rfl⟩)
  | build t parts => simp only [oBuild]; intro T T2 v T' fp h hs; simp only at h ⊢; simp only [ev_T2 (T := T) (T2 := T2), evs_T2 (T := T) (T2 := T2), optEv_T2 (T := T) (T2 := T2)]; exact reads_const _ _ T T2 v T' fp h hs
  | extract x i => simp only [oExtract]; intro T T2 v T' fp h hs; simp only at h ⊢; simp only [ev_T2 (T := T) (T2 := T2), evs_T2 (T := T) (T2 := T2), optEv_T2 (T := T) (T2 := T2)]; exact reads_const _ _ T T2 v T' fp h hs
  | makeFunc f first cap =>
    simp only [oFunc]
    intro T T2 v T' fp h hs
    simp only at h ⊢
    simp only [ev_T2 (T := T) (T2 := T2), evs_T2 (T := T) (T2 := T2), optEv_T2 (T := T) (T2 := T2)]
    split at h
    · exact reads_const _ _ T T2 v T' fp h hs
    · cases h
  | nilCheck x =>
    simp only [oNil]
    refine k1 anil x fun y => ?_
    intro T T2 v T' fp h hs
    simp only at h ⊢
    unfold anil at h ⊢
    split at h
    · exact reads_moved T T2 v T' fp h hs
    · exact reads_moved T T2 v T' fp h hs
    · exact reads_moved T T2 v T' fp h hs
    · exact reads_const _ _ T T2 v T' fp h hs
    · cases h
  | call c =>
    simp only [oCall]
    intro T T2 v T' fp h hs
    simp only at h ⊢
    simp only [ev_T2 (T := T) (T2 := T2), evs_T2 (T := T) (T2 := T2), optEv_T2 (T := T) (T2 := T2)]
    split at h
    · rename_i vs hvs
      split at h
      · exact reads_builtin T T2 v T' fp h hs
      · rename_i f hc
        try simp only [ev_T2 (T := T) (T2 := T2), evs_T2 (T := T) (T2 := T2), optEv_T2 (T := T) (T2 := T2)]
        unfold oCallV at h ⊢
        split at h
        · split at h
          · cases h
          · rename_i hgy
            simp only [hgy]
            exact reads_doCall T T2 v T' fp h hs
        · split at h
          · cases h
          · cases h
        · cases h
      · cases h
    · cases h
  | _ => exact reads_none
end
end Go.Im

namespace Go.Im
open Go
set_option linter.unusedVariables false
set_option linter.unusedSimpArgs false
set_option linter.unnecessarySimpa false
set_option linter.unusedSectionVars false
section
variable {P : Program} {H : Hint} {call : CallF} {ops : List Oper} {ch : List (Nat × Bool)} {tm tm' : List IV} {T T2 : List Blk} {r : IV × List Blk × Kd} {s : St} {o : Oper}

/-- An effect turns nothing but what it says. -/
def Writes (T : List Blk) (r : IV × List Blk × Kd) : Prop := ∀ wr, r.2.2 = .ef wr → ∀ b, b ∉ wr → r.2.1[b]? = T[b]?

theorem writes_rdv {fp : List Nat} {x : Option IV} (h : rdv T fp x = some r) : Writes T r := by
  obtain ⟨y, _, rfl⟩ := rdv_some h
  intro wr h
  cases h

theorem app_other {α : Type} {T ks : List α} {b : Nat} (h : b < T.length ∨ T.length + ks.length ≤ b) : (T ++ ks)[b]? = T[b]? := by
  rcases h with h | h
  · rw [List.getElem?_append_left h]
  · rw [List.getElem?_eq_none (by simp; omega), List.getElem?_eq_none (by omega)]

theorem app_one {α : Type} {T : List α} {k : α} {b : Nat} (h : b ≠ T.length) : (T ++ [k])[b]? = T[b]? := app_other (by simp; omega)

theorem shut_other {bs : List Nat} {b : Nat} (h : b ∉ bs) : (shut T bs)[b]? = T[b]? := by rw [shut_get, if_neg h]

theorem putBack_out {α : Type} {T ks : List α} {hd : List Nat} {b : Nat} (h1 : b ∉ hd) (h2 : b ∉ (List.range (ks.length - hd.length)).map (T.length + ·)) : (putBack T hd ks)[b]? = T[b]? := by
  by_cases hl : b < T.length
  · exact putBack_other h1 hl
  · have : ¬ b < T.length + (ks.length - hd.length) := by
      intro hlt
      refine h2 (List.mem_map.2 ⟨b - T.length, List.mem_range.2 (by omega), by show T.length + (b - T.length) = b; omega⟩)
    rw [List.getElem?_eq_none (by rw [putBack_len]; omega), List.getElem?_eq_none (by omega)]

mutual
theorem frz_lt : ∀ (x y : IV) (bs : List Nat), frz T x = some (y, bs) → ∀ b ∈ bs, b < T.length
  | .undef, _, _, h => by simp [frz] at h
  | .int _ _, _, _, h => by simp [frz] at h; obtain ⟨_, rfl⟩ := h; simp
  | .bool _, _, _, h => by simp [frz] at h; obtain ⟨_, rfl⟩ := h; simp
  | .str _, _, _, h => by simp [frz] at h; obtain ⟨_, rfl⟩ := h; simp
  | .nilp, _, _, h => by simp [frz] at h; obtain ⟨_, rfl⟩ := h; simp
  | .nilf, _, _, h => by simp [frz] at h; obtain ⟨_, rfl⟩ := h; simp
  | .nili, _, _, h => by simp [frz] at h; obtain ⟨_, rfl⟩ := h; simp
  | .fsl .., _, _, h => by simp [frz] at h; obtain ⟨_, rfl⟩ := h; simp
  | .fp _, _, _, h => by simp [frz] at h; obtain ⟨_, rfl⟩ := h; simp
  | .gd .., _, _, h => by simp [frz] at h
  | .agg l, _, _, h => by
    simp only [frz] at h
    obtain ⟨⟨ys, bs⟩, h1, h2⟩ := Option.map_eq_some_iff.1 h
    cases h2
    exact frzL_lt l ys _ h1
  | .tup l, _, _, h => by
    simp only [frz] at h
    obtain ⟨⟨ys, bs⟩, h1, h2⟩ := Option.map_eq_some_iff.1 h
    cases h2
    exact frzL_lt l ys _ h1
  | .fn g l, _, _, h => by
    cases l with
    | nil => simp [frz] at h; obtain ⟨_, rfl⟩ := h; simp
    | cons => simp [frz] at h
  | .osl b ver, _, _, h => by
    simp only [frz] at h
    obtain ⟨⟨e, l⟩, h1, h2⟩ := Option.map_eq_some_iff.1 h
    cases h2
    obtain ⟨fz, hb⟩ := row_some h1
    intro c hc
    simp at hc
    subst hc
    exact (List.getElem?_eq_some_iff.1 hb).1
  | .vsl b ver lo n, _, _, h => by
    simp only [frz] at h
    obtain ⟨⟨e, l⟩, h1, h2⟩ := Option.map_eq_some_iff.1 h
    cases h2
    obtain ⟨fz, hb⟩ := row_some h1
    intro c hc
    simp at hc
    subst hc
    exact (List.getElem?_eq_some_iff.1 hb).1
  | .vsv b lo n, _, _, h => by
    simp only [frz] at h
    split at h
    · rename_i fz cs hb
      split at h
      · cases h
        intro c hc
        simp at hc
        subst hc
        exact (List.getElem?_eq_some_iff.1 hb).1
      · cases h
    · cases h
  | .ep .., _, _, h => by simp [frz] at h
  | .ptr .., _, _, h => by simp [frz] at h
theorem frzL_lt : ∀ (x y : List IV) (bs : List Nat), frzL T x = some (y, bs) → ∀ b ∈ bs, b < T.length
  | [], _, _, h => by simp [frzL] at h; obtain ⟨_, rfl⟩ := h; simp
  | x :: xs, _, _, h => by
    simp only [frzL] at h
    split at h
    · rename_i y p ys q h1 h2
      cases h
      intro b hb
      rcases List.mem_append.1 hb with hb | hb
      · exact frz_lt x y p h1 b hb
      · exact frzL_lt xs ys q h2 b hb
    · cases h
end

theorem writes_moved {d : Nat} {x : IV} (h : amoved T d x = some r) : Writes T r := by
  unfold amoved at h
  repeat' split at h
  all_goals first | exact writes_rdv h | cases h

theorem writes_doCall {f : FuncId} {as : List IV} (h : doCall H call T f as = some r) : Writes T r := by
  unfold doCall at h
  split at h
  · split at h
    · cases h
    · rename_i as' lent hl
      split at h
      · cases h
      · rename_i r1 T1 hc
        split at h
        · split at h
          · cases h
          · split at h
            · cases h; intro wr h; cases h
            · cases h; intro wr h; cases h
            · cases h
              intro wr h b hb
              cases h
              exact shut_other hb
        · split at h
          · cases h
            intro wr h b hb
            cases h
            refine app_other ?_
            rw [backBs_len]
            by_cases hlt : b < T.length
            · exact .inl hlt
            · refine .inr ?_
              rcases Nat.lt_or_ge b (T.length + T1.length) with h | h
              · exact absurd (List.mem_map.2 ⟨b - T.length, List.mem_range.2 (by omega), by show T.length + (b - T.length) = b; omega⟩) hb
              · exact h
          · cases h
            intro wr h b hb
            cases h
            simp only [List.mem_append, not_or] at hb
            rw [app_other ?_]
            · exact shut_other hb.1
            · rw [backBs_len, shut_len]
              by_cases hlt : b < T.length
              · exact .inl hlt
              · refine .inr ?_
                rcases Nat.lt_or_ge b (T.length + T1.length) with h | h
                · exact absurd (List.mem_map.2 ⟨b - T.length, List.mem_range.2 (by omega), by show T.length + (b - T.length) = b; omega⟩) hb.2
                · exact h
  · rename_i hd hne
    split at h
    · rename_i as' lent hl hall
      split at h
      · cases h
      · rename_i r1 T1 hc
        split at h
        · split at h
          · cases h
          · rename_i r' fr hf
            split at h
            · cases h
              intro wr h b hb
              cases h
              simp only [List.mem_append, not_or] at hb
              exact putBack_out hb.1 (by rw [backBs_len]; exact hb.2)
            · cases h
              intro wr h b hb
              cases h
              simp only [List.mem_append, not_or] at hb
              obtain ⟨⟨b1, b2⟩, b3⟩ := hb
              rw [shut_other]
              · rw [putBack_out b1 (by rw [backBs_len, shut_len]; exact b3)]
                exact shut_other b2
              · intro hm
                obtain ⟨i, hi, rfl⟩ := List.mem_map.1 hm
                have hlt := frz_lt r1 r' fr hf i hi
                unfold fbk at b1 b3
                split at b1
                · rename_i h1
                  exact b1 (List.mem_of_getElem? (i := i) (by simp [List.getD, h1]))
                · rename_i h1
                  rw [if_neg h1] at b3
                  exact b3 (List.mem_map.2 ⟨i - (handed T (H.mv f) as).length, List.mem_range.2 (by omega), rfl⟩)
        · cases h
          intro wr h b hb
          cases h
          simp only [List.mem_append, not_or] at hb
          obtain ⟨⟨b1, b2⟩, b3⟩ := hb
          rw [putBack_out b1 (by rw [backBs_len, shut_len]; exact b3)]
          exact shut_other b2
    · cases h

theorem aop_writes (h : aop P H call ops ch o s = some r) : Writes s.bx r := by
  unfold aop at h
  split at h
  case h_1 => exact writes_rdv h
  case h_2 => exact writes_rdv h
  case h_3 => unfold oPick at h; repeat' split at h
              all_goals first | exact writes_rdv h | cases h
  case h_4 => exact writes_rdv h
  case h_5 => unfold oBin at h; split at h
              · exact writes_rdv h
              · cases h
  case h_6 =>
    obtain ⟨y, _, h⟩ := Option.bind_eq_some_iff.1 h
    unfold aconv at h
    repeat' split at h
    all_goals first
      | exact writes_rdv h
      | (cases h; done)
      | (cases h
         intro wr h b hb
         cases h
         rw [List.getElem?_set_ne (fun e => hb (by rw [e]; exact List.mem_singleton.2 rfl))])
  case h_7 =>
    unfold oAlloc at h
    split at h
    · cases h
      intro wr h b hb
      cases h
      exact app_one (by simpa using hb)
    · cases h
  case h_8 =>
    unfold oBox at h
    repeat' split at h
    all_goals first
      | (cases h; done)
      | (cases h
         intro wr h b hb
         cases h
         exact app_one (by simpa using hb))
  case h_9 =>
    obtain ⟨y, _, h⟩ := Option.bind_eq_some_iff.1 h
    unfold aload at h
    repeat' split at h
    all_goals first | exact writes_rdv h | cases h
  case h_10 =>
    unfold oStore at h
    split at h
    · unfold astore at h
      repeat' split at h
      all_goals first
        | (cases h; done)
        | (cases h
           intro wr h b hb
           cases h
           simp only [List.mem_cons, not_or, List.mem_singleton] at hb
           first
             | (rw [List.getElem?_set_ne (Ne.symm hb)]; done)
             | (rw [List.getElem?_set_ne (Ne.symm hb.1)]
                first
                  | done
                  | exact shut_other hb.2))
    · cases h
  case h_11 =>
    obtain ⟨y, _, h⟩ := Option.bind_eq_some_iff.1 h
    unfold afieldAddr at h
    repeat' split at h
    all_goals first | exact writes_moved h | cases h
  case h_12 => exact writes_rdv h
  case h_13 =>
    unfold oIndexAddr at h
    split at h
    · unfold aindexAddr at h
      repeat' split at h
      all_goals first | exact writes_rdv h | exact writes_moved h | cases h
    · cases h
  case h_14 => unfold oIndex at h; split at h
               · exact writes_rdv h
               · cases h
  case h_15 =>
    unfold oSlice at h
    split at h
    · unfold aslice at h
      repeat' split at h
      all_goals first | exact writes_rdv h | cases h
    · cases h
  case h_16 =>
    obtain ⟨y, _, h⟩ := Option.bind_eq_some_iff.1 h
    unfold amake at h
    repeat' split at h
    all_goals first
      | (cases h; done)
      | (cases h
         intro wr h b hb
         cases h
         exact app_one (by simpa using hb))
  case h_17 =>
    obtain ⟨y, _, h⟩ := Option.bind_eq_some_iff.1 h
    unfold abuildSlice at h
    repeat' split at h
    all_goals first
      | (cases h; done)
      | (cases h
         intro wr h b hb
         cases h
         simp only [List.mem_cons, not_or] at hb
         rw [app_one (by rw [shut_len]; exact hb.1)]
         exact shut_other hb.2)
  case h_18 => exact writes_rdv h
  case h_19 => exact writes_rdv h
  case h_20 => unfold oFunc at h; split at h
               · exact writes_rdv h
               · cases h
  case h_21 =>
    obtain ⟨y, _, h⟩ := Option.bind_eq_some_iff.1 h
    unfold anil at h
    split at h
    all_goals first | exact writes_moved h | exact writes_rdv h | cases h
  case h_22 =>
    unfold oCall at h
    split at h
    · split at h
      · unfold abuiltin at h
        repeat' split at h
        all_goals first
          | exact writes_rdv h
          | (unfold aappend at h; repeat' split at h
             all_goals first
              | (cases h; done)
              | (cases h
                 intro wr h b hb
                 cases h
                 first
                  | exact app_one (by simpa using hb)
                  | exact List.getElem?_set_ne (Ne.symm (by simpa using hb))))
          | cases h
      · unfold oCallV at h
        split at h
        · split at h
          · cases h
          · exact writes_doCall h
        · split at h
          · cases h
            intro wr h b hb
            cases h
            simp only [List.mem_range, Nat.not_lt] at hb
            rw [List.getElem?_eq_none (by dsimp only; omega), List.getElem?_eq_none (by omega)]
          · cases h
        · cases h
      · cases h
    · cases h
  case h_23 => cases h
end
end Go.Im

namespace Go.Im
open Go
set_option linter.unusedVariables false
set_option linter.unusedSimpArgs false
set_option linter.unnecessarySimpa false
set_option linter.unusedSectionVars false

/-! ### What comes ahead -/
theorem fold_bit {b : Edge → Bool} {A : Nat → Nat} {j : Nat} : ∀ (es : List Edge) (s : Nat), (es.foldl (fun s e => if b e then s ||| 2 ^ e.on ||| A e.on else s) s).testBit j = true →
    s.testBit j = true ∨ ∃ e ∈ es, b e = true ∧ (e.on = j ∨ (A e.on).testBit j = true)
  | [], s, h => .inl h
  | e :: es, s, h => by
    rw [List.foldl_cons] at h
    rcases fold_bit es _ h with h | ⟨e', h1, h2⟩
    · by_cases hb : b e = true
      · rw [if_pos hb] at h
        simp only [Nat.testBit_or, Bool.or_eq_true, Nat.testBit_two_pow, decide_eq_true_eq] at h
        rcases h with (h | h) | h
        · exact .inl h
        · exact .inr ⟨e, List.mem_cons_self .., hb, .inl h⟩
        · exact .inr ⟨e, List.mem_cons_self .., hb, .inr h⟩
      · rw [if_neg hb] at h
        exact .inl h
    · exact .inr ⟨e', List.mem_cons_of_mem _ h1, h2⟩

theorem bfGo_spec : ∀ (rest : List Oper) (acc : List Nat), acc <+: bfGo rest acc ∧ ∀ (k : Nat) (o : Oper), rest[k]? = some o →
    (bfGo rest acc)[acc.length + k]? = some (o.after.toList.foldl (fun s e => if Region.binds .any e then s ||| 2 ^ e.on ||| (((bfGo rest acc).take (acc.length + k)).getD e.on 0) else s) 0)
  | [], acc => ⟨List.prefix_refl _, fun k o h => by simp at h⟩
  | o0 :: rest, acc => by
    simp only [bfGo]
    generalize hv : (o0.after.toList.foldl (fun s e => if Region.binds .any e then s ||| 2 ^ e.on ||| (acc.getD e.on 0) else s) 0) = v
    obtain ⟨h1, h2⟩ := bfGo_spec rest (acc ++ [v])
    have hp : acc <+: bfGo rest (acc ++ [v]) := List.IsPrefix.trans (List.prefix_append _ _) h1
    refine ⟨hp, fun k o h => ?_⟩
    cases k with
    | zero =>
      simp at h
      subst h
      obtain ⟨t, ht⟩ := h1
      rw [← ht, Nat.add_zero]
      have : ((acc ++ [v]) ++ t)[acc.length]? = some v := by simp
      rw [this]
      have htk : (acc ++ [v] ++ t).take acc.length = acc := by simp
      rw [htk, hv]
    | succ k =>
      have := h2 k o (by simpa using h)
      simp only [List.length_append, List.length_cons, List.length_nil] at this
      rw [show acc.length + (k + 1) = acc.length + (0 + 1) + k by omega]
      exact this

/-- A set of operations with all that is ahead of them. -/
theorem bfs_closed {ops : List Oper} {L : Nat → Prop} (hc : ∀ i o, ops[i]? = some o → L i → ∀ e ∈ o.after.toList, Region.binds .any e = true → L e.on) :
    ∀ (i : Nat) (o : Oper), ops[i]? = some o → (∀ e ∈ o.after.toList, Region.binds .any e = true → L e.on) → ∀ j, ((bfs ops).getD i 0).testBit j = true → L j := by
  intro i
  induction i using Nat.strongRecOn with
  | _ i ih =>
    intro o ho he j hj
    obtain ⟨_, h2⟩ := bfGo_spec ops []
    have h3 := h2 i o ho
    simp only [List.length_nil, Nat.zero_add] at h3
    have h4 : (bfs ops).getD i 0 = o.after.toList.foldl (fun s e => if Region.binds .any e then s ||| 2 ^ e.on ||| (((bfGo ops []).take i).getD e.on 0) else s) 0 := by
      simp only [bfs, List.getD, h3, Option.getD_some]
    rw [h4] at hj
    rcases fold_bit (b := Region.binds .any) (A := fun k => ((bfGo ops []).take i).getD k 0) o.after.toList 0 hj with h | ⟨e, m1, m2, m3⟩
    · simp at h
    · have hL := he e m1 m2
      rcases m3 with m3 | m3
      · exact m3 ▸ hL
      · simp only [List.getD] at m3
        rw [List.getElem?_take] at m3
        split at m3
        · rename_i hlt
          cases hoe : ops[e.on]? with
          | none =>
            have hl : i < ops.length := (List.getElem?_eq_some_iff.1 ho).1
            have := List.getElem?_eq_none_iff.1 hoe
            omega
          | some oe => exact ih e.on hlt oe hoe (fun e' => hc e.on oe hoe hL e') j m3
        · simp at m3

/-! ### Static facts -/
theorem onceGo_iff {ops : List Oper} : ∀ (l : List Oper) (i : Nat), onceGo ops l i = true → ∀ (k : Nat) (o : Oper) (d : Nat), l[k]? = some o → o.dst = some d → loneB d (i + k) ops 0 = true
  | [], i, _, k, o, d, h, _ => by simp at h
  | o0 :: l, i, hg, 0, o, d, h, hd => by
    simp only [onceGo, Bool.and_eq_true] at hg
    simp at h
    subst h
    have := hg.1
    rw [hd] at this
    exact this
  | o0 :: l, i, hg, k + 1, o, d, h, hd => by
    simp only [onceGo, Bool.and_eq_true] at hg
    have := onceGo_iff l (i + 1) hg.2 k o d (by simpa using h) hd
    rwa [show i + (k + 1) = i + 1 + k by omega]

theorem backGo_iff : ∀ (l : List Oper) (i : Nat), backGo l i = true → ∀ (k : Nat) (o : Oper), l[k]? = some o → ∀ e ∈ o.after.toList, Region.binds .any e = true → e.on < i + k
  | [], i, _, k, o, h => by simp at h
  | o0 :: l, i, hg, 0, o, h => by
    simp only [backGo, Bool.and_eq_true] at hg
    simp at h
    subst h
    intro e he hb
    have := List.all_eq_true.1 hg.1 e he
    rw [hb] at this
    simp at this
    exact this
  | o0 :: l, i, hg, k + 1, o, h => by
    simp only [backGo, Bool.and_eq_true] at hg
    intro e he hb
    have := backGo_iff l (i + 1) hg.2 k o (by simpa using h) e he hb
    omega

theorem numb_get : ∀ (l : List Oper) (i k : Nat), (numb l i)[k]? = (l[k]?).map fun o => (i + k, o)
  | [], i, k => by simp [numb]
  | o :: l, i, 0 => by simp [numb]
  | o :: l, i, k + 1 => by
    simp only [numb, List.getElem?_cons_succ]
    rw [numb_get l (i + 1) k]
    simp only [show i + 1 + k = i + (k + 1) by omega]

theorem pairsGo_iff {f : Nat → Nat → Oper → Oper → Bool} : ∀ (l : List (Nat × Oper)), pairsGo f l = true → ∀ (a b : Nat) (p q : Nat × Oper), a < b → l[a]? = some p → l[b]? = some q → f p.1 q.1 p.2 q.2 = true
  | [], _, a, b, p, q, _, h, _ => by simp at h
  | (i, x) :: l, h, 0, b + 1, p, q, _, h1, h2 => by
    simp only [pairsGo, Bool.and_eq_true, List.all_eq_true] at h
    simp at h1
    subst h1
    exact h.1 q (List.mem_of_getElem? (by simpa using h2))
  | (i, x) :: l, h, a + 1, b + 1, p, q, hab, h1, h2 => by
    simp only [pairsGo, Bool.and_eq_true] at h
    exact pairsGo_iff l h.2 a b p q (by omega) (by simpa using h1) (by simpa using h2)
  | (i, x) :: l, h, a, 0, p, q, hab, _, _ => by omega

structure DrawOK (ops : List Oper) : Prop where
  once : ∀ (i j : Nat) (o o' : Oper) (d : Nat), ops[i]? = some o → ops[j]? = some o' → o.dst = some d → o'.dst = some d → i = j
  back : ∀ (i : Nat) (o : Oper), ops[i]? = some o → ∀ e ∈ o.after.toList, Region.binds .any e = true → e.on < i
  slots : ∀ (i j : Nat) (o o' : Oper), i < j → ops[i]? = some o → ops[j]? = some o' → ((bfs ops).getD j 0).testBit i = true ∨ ((∀ d, o.dst = some d → d ∉ looksOf ops o') ∧ ∀ d, o'.dst = some d → d ∉ looksOf ops o)

theorem drawOK_iff {ops : List Oper} (h : drawOK ops = true) : DrawOK ops := by
  simp only [drawOK, Bool.and_eq_true] at h
  obtain ⟨⟨h1, h2⟩, h3⟩ := h
  refine ⟨fun i j o o' d hi hj hd hd' => ?_, fun i o hi e he hb => ?_, fun i j o o' hij hi hj => ?_⟩
  · have := onceGo_iff ops 0 h1 i o d hi hd
    rw [Nat.zero_add] at this
    have := lone_iff ops 0 this j o' hj hd'
    omega
  · have := backGo_iff ops 0 h2 i o hi e he hb
    omega
  · have := pairsGo_iff _ h3 i j (0 + i, o) (0 + j, o') hij (by rw [numb_get, hi]; rfl) (by rw [numb_get, hj]; rfl)
    simp only [Nat.zero_add, Bool.or_eq_true] at this
    rcases this with h | h
    · exact .inl h
    · refine .inr ?_
      unfold slotsApart at h
      simp only [Bool.and_eq_true] at h
      refine ⟨fun d hd hm => ?_, fun d hd hm => ?_⟩
      · have := h.1
        rw [hd] at this
        simp at this
        exact this hm
      · have := h.2
        rw [hd] at this
        simp at this
        exact this hm

theorem apart_iff {ops : List Oper} {g : Log} (h : apartB ops g = true) {i j : Nat} {k l : Kd} (hi : (i, k) ∈ g) (hj : (j, l) ∈ g) (hij : i < j) (hb : ((bfs ops).getD j 0).testBit i = false) :
    (∀ fp wr, k = .rd fp → l = .ef wr → ∀ b ∈ fp, b ∉ wr) ∧ (∀ fp wr, k = .ef wr → l = .rd fp → ∀ b ∈ fp, b ∉ wr) ∧ ¬ (∃ w1 w2, k = .ef w1 ∧ l = .ef w2) := by
  have h1 := List.all_eq_true.1 (List.all_eq_true.1 h (i, k) hi) (j, l) hj
  simp only [hij, if_true, hb] at h1
  cases k with
  | rd fp =>
    cases l with
    | rd fp' => exact ⟨(fun _ _ _ h => by cases h), (fun _ _ h => by cases h), (fun ⟨_, _, h, _⟩ => by cases h)⟩
    | ef wr =>
      refine ⟨fun fp' wr' e1 e2 b hb => ?_, (fun _ _ h => by cases h), (fun ⟨_, _, h, _⟩ => by cases h)⟩
      cases e1; cases e2
      have := List.all_eq_true.1 h1 b hb
      simpa using this
  | ef wr =>
    cases l with
    | rd fp =>
      refine ⟨(fun _ _ h => by cases h), fun fp' wr' e1 e2 b hb => ?_, (fun ⟨_, _, _, h⟩ => by cases h)⟩
      cases e1; cases e2
      have := List.all_eq_true.1 h1 b hb
      simpa using this
    | ef wr' => simp at h1
end Go.Im

namespace Go.Im
open Go
set_option linter.unusedVariables false
set_option linter.unusedSimpArgs false
set_option linter.unnecessarySimpa false
set_option linter.unusedSectionVars false
section
variable {P : Program} {H : Hint} {call : CallF} {ops : List Oper}

/-- What one operation of a region did. -/
inductive One (P : Program) (H : Hint) (call : CallF) (ops : List Oper) (o : Oper) (s : St) : IV → List Blk → Option Kd → Prop
  | run (ch : List (Nat × Bool)) (x : IV) (T' : List Blk) (k : Kd) : (∀ j want, o.guard = some (j, want) → condOf want (slotv ops s.tm j) = some true) → ChOK s.tm ch → aop P H call ops ch o s = some (x, T', k) → One P H call ops o s x T' (some k)
  | gdT (ch : List (Nat × Bool)) (j : Nat) (want : Bool) (v : IV) (fp : List Nat) : o.guard = some (j, want) → condOf want (slotv ops s.tm j) = some true → ChOK s.tm ch → aop P H call ops ch o s = some (v, s.bx, .rd fp) → One P H call ops o s (.gd j want true v) s.bx (some (.rd fp))
  | gdF (j : Nat) (want : Bool) (v : IV) (fp : List Nat) : o.guard = some (j, want) → condOf want (slotv ops s.tm j) = some false → One P H call ops o s (.gd j want false v) s.bx (some (.rd fp))
  | skip (j : Nat) (want : Bool) : o.guard = some (j, want) → condOf want (slotv ops s.tm j) = some false → One P H call ops o s unit s.bx none

structure Trace (P : Program) (H : Hint) (call : CallF) (ops : List Oper) (i : Nat) (s : St) (n : Nat) (s' : St) (g' : Log) (f : Nat → St) (x : Nat → IV) (kd : Nat → Option Kd) : Prop where
  h0 : f i = s
  hn : f n = s'
  step : ∀ (j : Nat) (o : Oper), i ≤ j → ops[j]? = some o → One P H call ops o (f j) (x j) (f (j + 1)).bx (kd j) ∧ (f (j + 1)).tm = putTm (f j).tm o.dst (x j) ∧ RInv ops j (f j).tm
  log : ∀ (j : Nat) (k : Kd), i ≤ j → j < n → kd j = some k → (j, k) ∈ g'
  last : RInv ops n s'.tm

theorem trace_of (hg : guardsOK ops = true) : ∀ (rest : List Oper) (i : Nat) (s : St) (g : Log) (s' : St) (g' : Log), ops.drop i = rest → aops P H call ops rest i s g = some (s', g') → RInv ops i s.tm →
    (∀ e ∈ g, e ∈ g') ∧ ∃ f x kd, Trace P H call ops i s (i + rest.length) s' g' f x kd
  | [], i, s, g, s', g', hd, h, hr => by
    simp only [aops, Option.some.injEq, Prod.mk.injEq] at h
    obtain ⟨rfl, rfl⟩ := h
    refine ⟨fun _ h => h, fun _ => s, fun _ => .undef, fun _ => none, ⟨rfl, rfl, fun j o hj ho => ?_, (fun j k _ _ h => by cases h), by simpa using hr⟩⟩
    have : ops.length ≤ i := by simpa using hd
    have := (List.getElem?_eq_some_iff.1 ho).1
    omega
  | o :: rest, i, s, g, s', g', hd, h, hr => by
    have hi : ops[i]? = some o := by
      have : (ops.drop i)[0]? = some o := by rw [hd]; rfl
      rwa [List.getElem?_drop, Nat.add_zero] at this
    have hdr : ops.drop (i + 1) = rest := by
      have : (ops.drop i).drop 1 = rest := by rw [hd]; rfl
      rwa [List.drop_drop] at this
    have go : ∀ (x : IV) (T : List Blk) (k : Option Kd) (g2 : Log), aops P H call ops rest (i + 1) { tm := putTm s.tm o.dst x, bx := T } g2 = some (s', g') → RInv ops (i + 1) (putTm s.tm o.dst x) → One P H call ops o s x T k →
        (∀ e ∈ g, e ∈ g2) → (∀ kk, k = some kk → (i, kk) ∈ g2) → (∀ e ∈ g, e ∈ g') ∧ ∃ f x kd, Trace P H call ops i s (i + (rest.length + 1)) s' g' f x kd := by
      intro x T k g2 h2 hr2 hone hg1 hg2
      obtain ⟨m1, f, xs, kd, tr⟩ := trace_of hg rest (i + 1) _ g2 s' g' hdr h2 hr2
      refine ⟨fun e he => m1 e (hg1 e he), fun j => if j = i then s else f j, fun j => if j = i then x else xs j, fun j => if j = i then k else kd j, ?_⟩
      refine ⟨by simp, ?_, ?_, ?_, by have := tr.last; rwa [show i + (rest.length + 1) = i + 1 + rest.length by omega]⟩
      · rw [if_neg (by omega), show i + (rest.length + 1) = i + 1 + rest.length by omega]
        exact tr.hn
      · intro j oj hj hoj
        by_cases e : j = i
        · subst e
          rw [hi] at hoj
          cases hoj
          simp only [if_true, if_neg (show ¬ j + 1 = j by omega), tr.h0]
          exact ⟨hone, trivial, hr⟩
        · simp only [if_neg e, if_neg (show ¬ j + 1 = i by omega)]
          exact tr.step j oj (by omega) hoj
      · intro j kk hj hjn hkk
        by_cases e : j = i
        · subst e
          simp only [if_true] at hkk
          exact m1 _ (hg2 kk hkk)
        · simp only [if_neg e] at hkk
          exact tr.log j kk (by omega) (by omega) hkk
    simp only [List.length_cons]
    simp only [aops] at h
    cases hgd : o.guard with
    | none =>
      simp only [hgd] at h
      split at h
      · rename_i x T kd hop
        rw [putK_eq] at h
        obtain ⟨hop, hng⟩ := aopG_some hop
        exact go x T (some kd) _ h (hr.next hg hi (fun j w c y e => absurd e (hng j w c y)) (fun j w u h => by rw [hgd] at h; cases h))
          (.run [] x T kd (fun j want h => by rw [hgd] at h; cases h) (ChOK.nil _) hop) (fun e he => List.mem_cons_of_mem _ he) (fun kk e => by cases e; exact List.mem_cons_self ..)
      · cases h
    | some q =>
      obtain ⟨j, want⟩ := q
      simp only [hgd, nth?_eq] at h
      have hsl : ((ops[j]?).bind (·.dst)).bind (fun x => s.tm[x]?) = slotv ops s.tm j := rfl
      rw [hsl] at h
      split at h
      · cases h
      · rename_i c hc
        have hu0 : ∀ (x : IV), (∀ u, condOf u (some x) = some true → c = true) → ∀ j1 w1 u, o.guard = some (j1, w1) → condOf u (some x) = some true → condOf w1 (slotv ops s.tm j1) = some true := by
          intro x hx j1 w1 u h1 h2
          rw [hgd] at h1
          cases h1
          rw [hc, hx u h2]
        have skip : ∀ g2, (∀ e ∈ g, e ∈ g2) → aops P H call ops rest (i + 1) { tm := putTm s.tm o.dst unit, bx := s.bx } g2 = some (s', g') → c = false → (∀ e ∈ g, e ∈ g') ∧ ∃ f x kd, Trace P H call ops i s (i + (rest.length + 1)) s' g' f x kd := by
          intro g2 hg2 h2 hcf
          subst hcf
          refine go unit s.bx none g2 h2 (hr.next hg hi (fun j w c y e => by cases e) (hu0 unit ?_)) (.skip j want hgd hc) hg2 (fun kk e => by cases e)
          intro u h
          simp [unit, condOf] at h
        have hch : c = true → ChOK s.tm (chainOf ops 12 i) := fun hct => chain_ok hg hr 12 i o j want (Nat.le_refl _) hi hgd (by rw [hc, hct])
        split at h
        · split at h
          · rename_i v T fp hop
            rw [putK_eq] at h
            obtain ⟨hop, hng⟩ := aopG_some hop
            have hT0 : T = s.bx := aop_rd hop fp rfl
            subst hT0
            have hr2 : RInv ops (i + 1) (putTm s.tm o.dst (.gd j want c v)) := by
              refine hr.next hg hi ?_ (hu0 _ ?_)
              · intro j1 w1 c1 y e
                cases e
                exact ⟨hgd, hc⟩
              · intro u h
                cases c with
                | true => rfl
                | false => cases v <;> simp [condOf] at h
            cases c with
            | true => exact go _ s.bx (some (.rd fp)) _ h hr2 (.gdT _ j want v fp hgd hc (hch rfl) hop) (fun e he => List.mem_cons_of_mem _ he) (fun kk e => by cases e; exact List.mem_cons_self ..)
            | false => exact go _ s.bx (some (.rd fp)) _ h hr2 (.gdF j want v fp hgd hc) (fun e he => List.mem_cons_of_mem _ he) (fun kk e => by cases e; exact List.mem_cons_self ..)
          · cases c with
            | true => cases h
            | false =>
              rw [putK_eq] at h
              exact skip _ (fun _ h => h) h rfl
        · cases c with
          | true =>
            dsimp only at h
            split at h
            · rename_i v T kd hop
              rw [putK_eq] at h
              obtain ⟨hop, hng⟩ := aopG_some hop
              refine go v T (some kd) _ h (hr.next hg hi (fun j w c y e => absurd e (hng j w c y)) (hu0 v fun _ _ => rfl))
                (.run _ v T kd (fun j1 w1 h1 => by rw [hgd] at h1; cases h1; exact hc) (hch rfl) hop) (fun e he => List.mem_cons_of_mem _ he) (fun kk e => by cases e; exact List.mem_cons_self ..)
            · cases h
          | false =>
            dsimp only at h
            rw [putK_eq] at h
            exact skip _ (fun _ h => h) h rfl

/-- What stands in the slots before operation i. -/
structure Slots (ops : List Oper) (tm0 : List IV) (x : Nat → IV) (L : Nat → Prop) (m : List IV) : Prop where
  len : m.length = tm0.length
  set : ∀ (j : Nat) (o : Oper) (d : Nat), ops[j]? = some o → o.dst = some d → L j → d < tm0.length → m[d]? = some (x j)
  old : ∀ t, (∀ (j : Nat) (o : Oper), ops[j]? = some o → o.dst = some t → ¬ L j) → m[t]? = tm0[t]?

theorem Slots.put {tm0 m : List IV} {x : Nat → IV} {L : Nat → Prop} (hd : DrawOK ops) (h : Slots ops tm0 x L m) {i : Nat} {o : Oper} (hi : ops[i]? = some o) : Slots ops tm0 x (fun j => L j ∨ j = i) (putTm m o.dst (x i)) := by
  have hl : (putTm m o.dst (x i)).length = m.length := by cases o.dst <;> simp [putTm]
  refine ⟨hl.trans h.len, fun j oj d hj hdj hL hlt => ?_, fun t ht => ?_⟩
  · by_cases e : j = i
    · subst e
      rw [hi] at hj
      cases hj
      simp only [hdj, putTm]
      rw [List.getElem?_set_self (by rw [h.len]; exact hlt)]
    · have hL : L j := hL.resolve_right e
      have := h.set j oj d hj hdj hL hlt
      cases hod : o.dst with
      | none => exact this
      | some d' =>
        simp only [putTm]
        rw [List.getElem?_set_ne]
        · exact this
        · intro e2
          subst e2
          exact e (hd.once j i oj o d' hj hi hdj hod)
  · have h1 := h.old t fun j oj hj hdj hL => ht j oj hj hdj (.inl hL)
    cases hod : o.dst with
    | none => exact h1
    | some d' =>
      simp only [putTm]
      rw [List.getElem?_set_ne]
      · exact h1
      · intro e2
        subst e2
        exact ht i o hi hod (.inr rfl)

theorem Slots.congr {tm0 m : List IV} {x : Nat → IV} {L L' : Nat → Prop} (h : Slots ops tm0 x L m) (he : ∀ (j : Nat) (o : Oper), ops[j]? = some o → (L j ↔ L' j)) : Slots ops tm0 x L' m :=
  ⟨h.len, fun j o d hj hd hL hlt => h.set j o d hj hd ((he j o hj).2 hL) hlt, fun t ht => h.old t fun j o hj hd hL => ht j o hj hd ((he j o hj).1 hL)⟩

/-- The states of the run in order. -/
theorem trace_slots {s s' : St} {g' : Log} {f : Nat → St} {x : Nat → IV} {kd : Nat → Option Kd} (hd : DrawOK ops) (tr : Trace P H call ops 0 s ops.length s' g' f x kd) : ∀ i, i ≤ ops.length → Slots ops s.tm x (· < i) (f i).tm
  | 0, _ => by
    rw [tr.h0]
    exact ⟨rfl, fun j o d _ _ h => absurd h (Nat.not_lt_zero _), fun t _ => rfl⟩
  | i + 1, hi => by
    have ih := trace_slots hd tr i (by omega)
    have ho := List.getElem?_eq_getElem (show i < ops.length by omega)
    rw [(tr.step i _ (Nat.zero_le _) ho).2.1]
    exact (ih.put hd ho).congr fun j o _ => ⟨fun h => by omega, fun h => by omega⟩

/-- Slots alike where an operation looks. -/
theorem slots_alike {tm0 m m' : List IV} {x : Nat → IV} {L L' : Nat → Prop} (h : Slots ops tm0 x L m) (h' : Slots ops tm0 x L' m') (hd : DrawOK ops) (t : Nat) (ht : ∀ (j : Nat) (o : Oper), ops[j]? = some o → o.dst = some t → (L j ↔ L' j)) : m[t]? = m'[t]? := by
  by_cases hlt : t < tm0.length
  · by_cases hex : ∃ (j : Nat) (o : Oper), ops[j]? = some o ∧ o.dst = some t
    · obtain ⟨j, o, hj, hdj⟩ := hex
      by_cases hL : L j
      · rw [h.set j o t hj hdj hL hlt, h'.set j o t hj hdj ((ht j o hj hdj).1 hL) hlt]
      · have e : ∀ (k : Nat) (ok : Oper), ops[k]? = some ok → ok.dst = some t → k = j := fun k ok hk hdk => hd.once k j ok o t hk hj hdk hdj
        rw [h.old t fun k ok hk hdk hLk => hL (e k ok hk hdk ▸ hLk), h'.old t fun k ok hk hdk hLk => hL ((ht j o hj hdj).2 (e k ok hk hdk ▸ hLk))]
    · rw [h.old t fun k ok hk hdk _ => hex ⟨k, ok, hk, hdk⟩, h'.old t fun k ok hk hdk _ => hex ⟨k, ok, hk, hdk⟩]
  · rw [List.getElem?_eq_none (by rw [h.len]; omega), List.getElem?_eq_none (by rw [h'.len]; omega)]
end
end Go.Im

namespace Go.Im
open Go
set_option linter.unusedVariables false
set_option linter.unusedSimpArgs false
set_option linter.unnecessarySimpa false
set_option linter.unusedSectionVars false

def maskTm (l : List Nat) (tm : List IV) : List IV := tm.zipIdx.map fun p => if p.2 ∈ l then p.1 else .undef

theorem mask_get {l : List Nat} {tm : List IV} {t : Nat} : (maskTm l tm)[t]? = (tm[t]?).map fun x => if t ∈ l then x else .undef := by
  simp only [maskTm, List.getElem?_map, List.getElem?_zipIdx, Option.map_map, Nat.zero_add]
  rfl

section
variable {KK : KC} {rr : Option Nat} {nn : Nat} {P : Program} {H : Hint} {call : CallF} {ops : Array Oper} {s s' : St} {g' : Log} {f : Nat → St} {x : Nat → IV} {kd : Nat → Option Kd}

theorem trace_bx (tr : Trace P H call ops.toList 0 s ops.toList.length s' g' f x kd) {j : Nat} (hj : j < ops.toList.length) :
    ((∀ wr, kd j ≠ some (.ef wr)) → (f (j + 1)).bx = (f j).bx) ∧ ∀ wr, kd j = some (.ef wr) → ∀ b, b ∉ wr → (f (j + 1)).bx[b]? = (f j).bx[b]? := by
  obtain ⟨h1, h2, h3⟩ := tr.step j _ (Nat.zero_le _) (List.getElem?_eq_getElem hj)
  generalize hT : (f (j + 1)).bx = T at h1
  generalize hx : x j = xx at h1
  generalize hk : kd j = kk at h1
  cases h1 with
  | run ch _ _ k hg hch hop =>
    refine ⟨fun hn => ?_, fun wr e b hb => ?_⟩
    · cases k with
      | rd fp => exact aop_rd hop fp rfl
      | ef wr => exact absurd rfl (hn wr)
    · cases e
      exact aop_writes hop wr rfl b hb
  | gdT => exact ⟨fun _ => rfl, fun wr e => by cases e⟩
  | gdF => exact ⟨fun _ => rfl, fun wr e => by cases e⟩
  | skip => exact ⟨fun _ => rfl, fun wr e => by cases e⟩

/-- Blocks that no effect between two places turns. -/
theorem between (tr : Trace P H call ops.toList 0 s ops.toList.length s' g' f x kd) {b : Nat} : ∀ (d lo : Nat), lo + d ≤ ops.toList.length → (∀ j wr, lo ≤ j → j < lo + d → kd j = some (.ef wr) → b ∉ wr) → (f (lo + d)).bx[b]? = (f lo).bx[b]?
  | 0, lo, _, _ => rfl
  | d + 1, lo, hl, h => by
    have ih := between tr d lo (by omega) fun j wr h1 h2 h3 => h j wr h1 (by omega) h3
    obtain ⟨k1, k2⟩ := trace_bx tr (j := lo + d) (by omega)
    rw [← ih, show lo + (d + 1) = lo + d + 1 by omega]
    by_cases he : ∃ wr, kd (lo + d) = some (.ef wr)
    · obtain ⟨wr, he⟩ := he
      exact k2 wr he b (h (lo + d) wr (by omega) (by omega) he)
    · rw [k1 fun wr e => he ⟨wr, e⟩]

theorem between_all (tr : Trace P H call ops.toList 0 s ops.toList.length s' g' f x kd) : ∀ (d lo : Nat), lo + d ≤ ops.toList.length → (∀ j wr, lo ≤ j → j < lo + d → kd j ≠ some (.ef wr)) → (f (lo + d)).bx = (f lo).bx
  | 0, lo, _, _ => rfl
  | d + 1, lo, hl, h => by
    have ih := between_all tr d lo (by omega) fun j wr h1 h2 => h j wr h1 (by omega)
    obtain ⟨k1, _⟩ := trace_bx tr (j := lo + d) (by omega)
    rw [← ih, show lo + (d + 1) = lo + d + 1 by omega]
    exact k1 fun wr => h (lo + d) wr (by omega) (by omega)

structure J (KK : KC) (H : Hint) (ops : Array Oper) (s : St) (f : Nat → St) (x : Nat → IV) (kd : Nat → Option Kd) (Γ0 : Cx) (w0 : World) (L : Array Bool) (a : Act) (w : World) : Prop where
  size : L.size = ops.size
  closed : ∀ (i : Nat) (o : Oper), ops.toList[i]? = some o → L.getD i false = true → ∀ e ∈ o.after.toList, Region.binds .any e = true → L.getD e.on false = true
  st : ∃ Γ m e, Sat KK H Γ w { tm := m, bx := (f e).bx } a ∧ Step Γ0 w0 Γ w ∧ Slots ops.toList s.tm x (fun j => L.getD j false = true) m ∧ e ≤ ops.toList.length ∧ ∀ (j : Nat) (wr : List Nat), j < ops.toList.length → kd j = some (.ef wr) → (L.getD j false = true ↔ j < e)

theorem any_step (hcall : CallsOK KK P H call) (hg : guardsOK ops.toList = true) (hd : DrawOK ops.toList) (hap : apartB ops.toList g' = true) (tr : Trace P H call ops.toList 0 s ops.toList.length s' g' f x kd)
    {Γ0 : Cx} {w0 : World} {L : Array Bool} {a : Act} {w : World} {Q : Exit → Act → World → Prop} {K : Act → World → Prop} (h : J KK H ops s f x kd Γ0 w0 L a w) {i : Nat} {o : Oper} (ho : ops.toList[i]? = some o) (hL : L.getD i true = false)
    (hp : ∀ e ∈ o.after.toList, Region.binds .any e = true → L.getD e.on false = true) (hK : ∀ a' w', J KK H ops s f x kd Γ0 w0 (L.setIfInBounds i true) a' w' → K a' w') : wpOpIn (FW rr) nn P ops Q i K a w := by
  obtain ⟨hsz, hcl, Γ, m, e, hs, hst, hsl, hen, heff⟩ := h
  have hil : i < ops.toList.length := (List.getElem?_eq_some_iff.1 ho).1
  have hiL : i < L.size := by rw [hsz]; simpa using hil
  have hLi : L.getD i false = false := by
    simp only [Array.getD, hiL, dif_pos] at hL ⊢
    exact hL
  have ho' : ops[i]? = some o := by simpa using ho
  have hbf := bfs_closed (ops := ops.toList) (L := fun j => L.getD j false = true) hcl
  have before_in : ∀ j, ((bfs ops.toList).getD i 0).testBit j = true → L.getD j false = true := hbf i o ho hp
  have after_out : ∀ j oj, ops.toList[j]? = some oj → ((bfs ops.toList).getD j 0).testBit i = true → L.getD j false = true → False := by
    intro j oj hj hb hLj
    have := hbf j oj hj (hcl j oj hj hLj) i hb
    rw [hLi] at this
    cases this
  obtain ⟨hone, htm, hri⟩ := tr.step i o (Nat.zero_le _) ho
  have hin := trace_slots hd tr i (by omega)
  have hlook : ∀ t, t ∈ looksOf ops.toList o → m[t]? = (f i).tm[t]? := by
    intro t ht
    refine slots_alike hsl hin hd t fun j oj hj hdj => ?_
    rcases Nat.lt_trichotomy j i with hji | rfl | hji
    · rcases hd.slots j i oj o hji hj ho with hb | hb
      · exact ⟨fun _ => hji, fun _ => before_in j hb⟩
      · exact absurd ht (hb.1 t hdj)
    · rw [hLi]
      exact ⟨(fun h => by cases h), fun h => absurd h (Nat.lt_irrefl _)⟩
    · rcases hd.slots i j o oj hji ho hj with hb | hb
      · exact ⟨fun h => (after_out j oj hj hb h).elim, fun h => by omega⟩
      · exact absurd ht (hb.2 t hdj)
  have hmask : Sat KK H Γ w { tm := maskTm (looksOf ops.toList o) (f i).tm, bx := (f e).bx } a := by
    refine ⟨hs.inv, hs.T, ⟨?_, fun t y hy => ?_⟩, hs.gl, hs.df, hs.gd⟩
    · have h1 := hs.tm.1
      have h2 := hsl.len
      have h3 := hin.len
      simp only [maskTm, List.length_map, List.length_zipIdx]
      simp only at h1
      omega
    · simp only [mask_get] at hy
      obtain ⟨z, hz, rfl⟩ := Option.map_eq_some_iff.1 hy
      split
      · rename_i hm
        exact hs.tm.2 t z ((hlook t hm).trans hz)
      · trivial
  have halike : Alike (f i).tm (maskTm (looksOf ops.toList o) (f i).tm) (usesOf o.op) := by
    intro t ht
    have hm : t ∈ looksOf ops.toList o := by
      unfold looksOf
      exact List.mem_append_left _ (List.mem_filterMap.2 ⟨.tmp t, ht, rfl⟩)
    rw [mask_get]
    cases (f i).tm[t]? <;> simp [hm]
  have hslot : ∀ j want, o.guard = some (j, want) → slotv ops.toList (maskTm (looksOf ops.toList o) (f i).tm) j = slotv ops.toList (f i).tm j := by
    intro j want hgd
    obtain ⟨_, oj, d, h3, h4, _⟩ := guards_iff hg ho hgd
    have hm : d ∈ looksOf ops.toList o := by
      unfold looksOf
      refine List.mem_append_right _ ?_
      simp [hgd, nth?_eq, h3, h4]
    unfold slotv
    simp only [h3, Option.bind_some, h4, mask_get]
    cases (f i).tm[d]? <;> simp [hm]
  have hch : ∀ ch, ChOK (f i).tm ch → ChOK (maskTm (looksOf ops.toList o) (f i).tm) ch := by
    intro ch hc t j u c y hy hm
    rw [mask_get] at hy
    obtain ⟨z, hz, e2⟩ := Option.map_eq_some_iff.1 hy
    split at e2
    · subst e2
      exact hc t j u c y hz hm
    · cases e2
  have hgf : ∀ c p q, o.op = .pick c p q → GdFor ops.toList (maskTm (looksOf ops.toList o) (f i).tm) c := by
    intro c p q hop t j u cc y hy hw
    rw [mask_get] at hy
    obtain ⟨z, hz, e2⟩ := Option.map_eq_some_iff.1 hy
    split at e2
    · subst e2
      obtain ⟨o2, d2, y2, k1, k2, k3, k4⟩ := hri.gdOK t j u cc y hz
      obtain ⟨d, o1, rfl, m1, m2⟩ := whoSets_some hw
      rw [k1] at m1
      cases m1
      rw [k2] at m2
      cases m2
      refine ⟨o2, d2, y2, k1, k2, ?_, k4⟩
      have hm : d2 ∈ looksOf ops.toList o := by
        unfold looksOf
        exact List.mem_append_left _ (List.mem_filterMap.2 ⟨.tmp d2, by rw [hop]; simp [usesOf], rfl⟩)
      rw [mask_get, k3]
      simp [hm]
    · cases e2
  have hset : ∀ j, (L.setIfInBounds i true).getD j false = true ↔ (L.getD j false = true ∨ j = i) := by
    intro j
    simp only [Array.getD_eq_getD_getElem?, Array.getElem?_setIfInBounds]
    by_cases e : i = j
    · subst e
      simp [hiL]
    · simp [e, Ne.symm e]
  have fin : ∀ (e' : Nat) (v : Value) (w1 : World) (Γ1 : Cx), e' ≤ ops.toList.length → Γ1.T = (f e').bx → Step Γ w Γ1 w1 → Rep Γ1 w1 (x i) v →
      (∀ (j : Nat) (wr : List Nat), j < ops.toList.length → kd j = some (.ef wr) → ((L.getD j false = true ∨ j = i) ↔ j < e')) → K (a.put o.dst v) w1 := by
    intro e' v w1 Γ1 hel hT hs1 hx he
    refine hK _ _ ⟨by simpa using hsz, fun k ok hk hLk ed hed hb => ?_, Γ1, putTm m o.dst (x i), e', hs.put hs1 hT o.dst hx, hst.trans hs1, (hsl.put hd ho).congr fun j oj _ => (hset j).symm, hel, fun j wr hj hk => (hset j).trans (he j wr hj hk)⟩
    rw [hset]
    rcases (hset k).1 hLk with h | rfl
    · exact .inl (hcl k ok hk h ed hed hb)
    · rw [ho] at hk
      cases hk
      exact .inl (hp ed hed hb)
  have quiet : (∀ wr, kd i ≠ some (.ef wr)) → ∀ (j : Nat) (wr : List Nat), j < ops.toList.length → kd j = some (.ef wr) → ((L.getD j false = true ∨ j = i) ↔ j < e) := by
    intro hn j wr hj hk
    have hne : j ≠ i := fun e2 => by subst e2; exact hn wr hk
    rw [← heff j wr hj hk]
    exact ⟨fun h => h.resolve_right hne, .inl⟩
  have lg : ∀ j k, j < ops.toList.length → kd j = some k → (j, k) ∈ g' := fun j k hj hk => tr.log j k (Nat.zero_le _) hj hk
  have same : ∀ fp, kd i = some (.rd fp) → Same (f i).bx (f e).bx fp := by
    intro fp hk b hb
    rcases Nat.lt_or_ge i e with hie | hie
    · have := between tr (b := b) (e - i) i (by omega) fun j wr h1 h2 h3 hbw => by
        have hjn : j < ops.toList.length := by omega
        have hne : i ≠ j := fun e2 => by subst e2; rw [hk] at h3; cases h3
        have hLj : L.getD j false = true := (heff j wr hjn h3).2 (by omega)
        have hnb : ((bfs ops.toList).getD j 0).testBit i = false := by
          cases hbb : ((bfs ops.toList).getD j 0).testBit i with
          | false => rfl
          | true => exact (after_out j _ (List.getElem?_eq_getElem hjn) hbb hLj).elim
        exact (apart_iff hap (lg i _ hil hk) (lg j _ hjn h3) (by omega) hnb).1 fp wr rfl rfl b hb hbw
      rwa [show i + (e - i) = e by omega] at this
    · have := between tr (b := b) (i - e) e (by omega) fun j wr h1 h2 h3 hbw => by
        have hjn : j < ops.toList.length := by omega
        have hLj : ¬ L.getD j false = true := fun h => by have := (heff j wr hjn h3).1 h; omega
        have hnb : ((bfs ops.toList).getD i 0).testBit j = false := by
          cases hbb : ((bfs ops.toList).getD i 0).testBit j with
          | false => rfl
          | true => exact absurd (before_in j hbb) hLj
        exact (apart_iff hap (lg j _ hjn h3) (lg i _ hil hk) (by omega) hnb).2.1 fp wr rfl rfl b hb hbw
      rw [show e + (i - e) = i by omega] at this
      exact this.symm
  have effbx : ∀ wr, kd i = some (.ef wr) → (f e).bx = (f i).bx ∧ ∀ (j : Nat) (wr : List Nat), j < ops.toList.length → kd j = some (.ef wr) → ((L.getD j false = true ∨ j = i) ↔ j < i + 1) := by
    intro wr0 hk
    have lo : ∀ j wr, j < i → kd j = some (.ef wr) → L.getD j false = true := by
      intro j wr hji hj
      have hjn : j < ops.toList.length := by omega
      cases hbb : ((bfs ops.toList).getD i 0).testBit j with
      | true => exact before_in j hbb
      | false => exact ((apart_iff hap (lg j _ hjn hj) (lg i _ hil hk) hji hbb).2.2 ⟨wr, wr0, rfl, rfl⟩).elim
    have hi : ∀ j wr, i < j → j < ops.toList.length → kd j = some (.ef wr) → ¬ L.getD j false = true := by
      intro j wr hji hjn hj hLj
      cases hbb : ((bfs ops.toList).getD j 0).testBit i with
      | true => exact after_out j _ (List.getElem?_eq_getElem hjn) hbb hLj
      | false => exact (apart_iff hap (lg i _ hil hk) (lg j _ hjn hj) hji hbb).2.2 ⟨wr0, wr, rfl, rfl⟩
    have hei : e ≤ i := by
      rcases Nat.lt_or_ge i e with h | h
      · have := (heff i wr0 hil hk).2 h
        rw [hLi] at this
        cases this
      · exact h
    refine ⟨?_, fun j wr hj hkj => ?_⟩
    · have := between_all tr (i - e) e (by omega) fun j wr h1 h2 h3 => by
        have hjn : j < ops.toList.length := by omega
        have := (heff j wr hjn h3).1 (lo j wr (by omega) h3)
        omega
      rw [show e + (i - e) = i by omega] at this
      exact this.symm
    · rcases Nat.lt_trichotomy j i with h | rfl | h
      · exact ⟨fun _ => by omega, fun _ => .inl (lo j wr h hkj)⟩
      · exact ⟨fun _ => by omega, fun _ => .inr rfl⟩
      · exact ⟨fun h2 => by
          rcases h2 with h2 | h2
          · exact absurd h2 (hi j wr h hj hkj)
          · omega, fun h2 => by omega⟩
  have bx1 : (f (i + 1)).bx = (f (i + 1)).bx := rfl
  unfold wpOpIn
  rw [ho']
  simp only
  have wtrue : ∀ j want, o.guard = some (j, want) → condOf want (slotv ops.toList (f i).tm j) = some true → Region.wanted o (yielded ops a.tmps) = true := by
    intro j want hgd hc
    exact cond_wanted hmask hgd (by rw [hslot j want hgd]; exact hc)
  have wfalse : ∀ j want, o.guard = some (j, want) → condOf want (slotv ops.toList (f i).tm j) = some false → Region.wanted o (yielded ops a.tmps) = false := by
    intro j want hgd hc
    exact cond_wanted hmask hgd (by rw [hslot j want hgd]; exact hc)
  have hfi : f i = { tm := (f i).tm, bx := (f i).bx } := rfl
  have rd : ∀ ch v T1 fp, aop P H call ops.toList ch o (f i) = some (v, T1, .rd fp) → kd i = some (.rd fp) → aop P H call ops.toList ch o { tm := maskTm (looksOf ops.toList o) (f i).tm, bx := (f e).bx } = some (v, (f e).bx, .rd fp) := by
    intro ch v T1 fp hop hk
    rw [hfi] at hop
    rw [aop_alike halike] at hop
    exact aop_reads (f i).bx (f e).bx v T1 fp hop (same fp hk)
  generalize hT : (f (i + 1)).bx = T at hone
  generalize hx : x i = xx at hone
  generalize hk : kd i = kk at hone
  cases hone with
  | run ch _ _ k hgd hc hop =>
    have hw : Region.wanted o (yielded ops a.tmps) = true := by
      cases hgo : o.guard with
      | none => unfold Region.wanted; rw [hgo]
      | some q => obtain ⟨j, want⟩ := q; exact wtrue j want hgo (hgd j want hgo)
    rw [if_pos hw]
    cases k with
    | rd fp =>
      have hop2 := rd ch _ _ fp hop hk
      exact aop_ok hcall hmask.gd (hmask.at (hch ch hc)) hgf hop2 fun v w1 Γ1 h1 h2 h3 => fin e v w1 Γ1 hen h1 h2 (by rw [hx]; exact h3) (quiet fun wr h => by rw [hk] at h; cases h)
    | ef wr =>
      obtain ⟨h1, h2⟩ := effbx wr hk
      have hop2 := hop
      rw [hfi, aop_alike halike, ← h1] at hop2
      exact aop_ok hcall hmask.gd (hmask.at (hch ch hc)) hgf hop2 fun v w1 Γ1 h3 h4 h5 => fin (i + 1) v w1 Γ1 (by omega) (by rw [hT]; exact h3) h4 (by rw [hx]; exact h5) h2
  | gdT ch j want v fp hgd hcc hc hop =>
    rw [if_pos (wtrue j want hgd hcc)]
    have hop2 := rd ch v _ fp hop hk
    exact (aop_ok hcall hmask.gd (hmask.at (hch ch hc)) hgf hop2 fun v1 w1 Γ1 h1 h2 h3 => fin e v1 w1 Γ1 hen h1 h2 (by rw [hx]; exact rep_gd (fun _ => h3) (fun e => by cases e)) (quiet fun wr h => by rw [hk] at h; cases h))
  | gdF j want v fp hgd hcc =>
    rw [if_neg (by rw [wfalse j want hgd hcc]; simp)]
    exact ⟨fun _ _ => trivial, fin e undef w Γ hen hs.T (Step.refl hs.inv) (by rw [hx]; exact rep_gd (fun e => by cases e) (fun _ => rfl)) (quiet fun wr h => by rw [hk] at h; cases h)⟩
  | skip j want hgd hcc =>
    rw [if_neg (by rw [wfalse j want hgd hcc]; simp)]
    exact ⟨fun _ _ => trivial, fin e undef w Γ hen hs.T (Step.refl hs.inv) (by rw [hx]; exact rep_unit Γ w) (quiet fun wr h => by rw [hk] at h; cases h)⟩
end
end Go.Im

namespace Go.Im
open Go
set_option linter.unusedVariables false
set_option linter.unusedSimpArgs false
set_option linter.unnecessarySimpa false
set_option linter.unusedSectionVars false
section
variable {KK : KC} {rr : Option Nat} {nn : Nat} {P : Program} {H : Hint} {call : CallF} {ops : Array Oper} {s s' : St} {g' : Log} {f : Nat → St} {x : Nat → IV} {kd : Nat → Option Kd}

def cnt (n : Nat) (L : Array Bool) : Nat := ((List.range n).filter fun i => !L.getD i false).length

theorem cnt_set {n : Nat} {L : Array Bool} {i : Nat} (hi : i < n) (hs : L.size = n) (h : L.getD i false = false) : cnt n (L.setIfInBounds i true) < cnt n L := by
  unfold cnt
  have he : ((List.range n).filter fun j => !(L.setIfInBounds i true).getD j false) = ((List.range n).filter fun j => !L.getD j false).filter (fun j => decide (j ≠ i)) := by
    rw [List.filter_filter]
    apply List.filter_congr
    intro j hj
    simp only [Array.getD_eq_getD_getElem?, Array.getElem?_setIfInBounds]
    by_cases e : i = j
    · subst e
      simp [hs, hi]
    · simp [e, Ne.symm e]
  rw [he]
  exact List.length_filter_lt_length_iff_exists.2 ⟨i, List.mem_filter.2 ⟨List.mem_range.2 hi, by rw [h]; rfl⟩, by simp⟩

theorem ready_iff {L : Array Bool} {i : Nat} : i ∈ Region.ready .any ops L ↔ i < ops.size ∧ L.getD i true = false ∧ ∃ o, ops[i]? = some o ∧ ∀ e ∈ o.after.toList, Region.binds .any e = true → L.getD e.on false = true := by
  unfold Region.ready
  rw [List.mem_filter, List.mem_range]
  constructor
  · rintro ⟨h1, h2⟩
    simp only [Bool.and_eq_true, Bool.not_eq_true'] at h2
    refine ⟨h1, h2.1, ops[i], Array.getElem?_eq_getElem h1, fun e he hb => ?_⟩
    have h3 := h2.2
    rw [Array.getElem?_eq_getElem h1] at h3
    simp only [Option.map_some, Option.getD_some, Array.all_eq_true_iff_forall_mem] at h3
    have := h3 e (by simpa using he)
    rw [hb] at this
    simpa using this
  · rintro ⟨h1, h2, o, h3, h4⟩
    refine ⟨h1, ?_⟩
    rw [h2, h3]
    simp only [Option.map_some, Option.getD_some, Bool.not_false, Bool.true_and, Array.all_eq_true_iff_forall_mem]
    intro e he
    cases hb : Region.binds .any e with
    | false => rfl
    | true =>
      have := h4 e (by simpa using he) hb
      rw [this]
      rfl

theorem all_listed (hd : DrawOK ops.toList) {L : Array Bool} (hs : L.size = ops.size) (hr : Region.ready .any ops L = []) : ∀ i, i < ops.size → L.getD i false = true := by
  intro i
  induction i using Nat.strongRecOn with
  | _ i ih =>
    intro hi
    have ho : ops[i]? = some ops[i] := Array.getElem?_eq_getElem hi
    cases hl : L.getD i true with
    | true =>
      have hiL : i < L.size := by omega
      simp only [Array.getD, hiL, dif_pos] at hl ⊢
      exact hl
    | false =>
      have : i ∈ Region.ready .any ops L := ready_iff.2 ⟨hi, hl, _, ho, fun e he hb => by
        have hlt := hd.back i _ (by simpa using ho) e he hb
        exact ih e.on hlt (by omega)⟩
      rw [hr] at this
      cases this

theorem any_ok (hcall : CallsOK KK P H call) (hg : guardsOK ops.toList = true) (hd : DrawOK ops.toList) (hap : apartB ops.toList g' = true) (tr : Trace P H call ops.toList 0 s ops.toList.length s' g' f x kd)
    {Γ0 : Cx} {w0 : World} {Q : Exit → Act → World → Prop} (hQ : ∀ L a w, J KK H ops s f x kd Γ0 w0 L a w → (∀ i, i < ops.size → L.getD i false = true) → Q .normal a w) :
    ∀ (fuel : Nat) (L : Array Bool) (a : Act) (w : World), cnt ops.size L ≤ fuel → J KK H ops s f x kd Γ0 w0 L a w → wpAnyIn (FW rr) nn P .any ops Q fuel L a w
  | 0, L, a, w, hc, h => by
    have hall : ∀ i, i < ops.size → L.getD i false = true := by
      intro i hi
      cases hl : L.getD i false with
      | true => rfl
      | false =>
        have hm : i ∈ (List.range ops.size).filter fun j => !L.getD j false := List.mem_filter.2 ⟨List.mem_range.2 hi, by rw [hl]; rfl⟩
        have : (List.range ops.size).filter (fun j => !L.getD j false) = [] := List.eq_nil_of_length_eq_zero (by unfold cnt at hc; omega)
        rw [this] at hm
        cases hm
    refine ⟨?_, hQ L a w h hall⟩
    cases hr : Region.ready .any ops L with
    | nil => rfl
    | cons i rest =>
      have hm : i ∈ Region.ready .any ops L := by rw [hr]; exact List.mem_cons_self ..
      obtain ⟨h1, h2, _⟩ := ready_iff.1 hm
      have h3 := hall i h1
      have hiL : i < L.size := by rw [h.size]; exact h1
      simp only [Array.getD, hiL, dif_pos] at h2 h3
      rw [h2] at h3
      cases h3
  | fuel + 1, L, a, w, hc, h => by
    refine ⟨fun hr => hQ L a w h (all_listed hd h.size hr), fun i hi => ?_⟩
    obtain ⟨h1, h2, o, h3, h4⟩ := ready_iff.1 hi
    refine any_step hcall hg hd hap tr h (by simpa using h3) h2 h4 fun a' w' hJ => any_ok hcall hg hd hap tr hQ fuel _ a' w' ?_ hJ
    have hiL : i < L.size := by rw [h.size]; exact h1
    have hl : L.getD i false = false := by
      simp only [Array.getD, hiL, dif_pos] at h2 ⊢
      exact h2
    have := cnt_set h1 h.size hl
    omega

theorem nogd_of {ops : List Oper} {n : Nat} {tm : List IV} (h : RInv ops n tm) (hn : noGuard ops = true) : NoGd tm := by
  intro t j w c y hy
  obtain ⟨_, ⟨k, o, w', h1, h2⟩, _⟩ := h.gd t j w c y hy
  have := List.all_eq_true.1 hn o (List.mem_of_getElem? h1)
  rw [h2] at this
  cases this

theorem nogd_drop (tm : List IV) : NoGd (tm.map dropGd) := by
  intro t j w c y hy
  simp only [List.getElem?_map] at hy
  obtain ⟨z, _, e⟩ := Option.map_eq_some_iff.1 hy
  cases z <;> cases e

/-- REGIONS ARE SOUND. -/
theorem reg_ok (hm : P.follows .mixedOrders = true) (hcall : CallsOK KK P H call) : RegOK KK P H call := by
  intro rr nn id ops draw s s' Γ w a Q h hs hn k
  unfold aregion at h
  split at h
  · cases h
  · rename_i hg
    split at h
    · cases h
    · rename_i s1 g1 hops
      obtain ⟨_, f, x, kd, tr⟩ := trace_of hg ops.toList 0 s [] s1 g1 rfl hops (hn.rinv _)
      rw [Nat.zero_add] at tr
      have post : ∀ (a' : Act) (w' : World) (Γ' : Cx), Step Γ w Γ' w' → Sat KK H Γ' w' s1 a' → (match noGuard ops.toList with | true => some s1 | false => force (s1.tm.map dropGd) fun tm => some { tm := tm, bx := s1.bx }) = some s' → Q .normal a' w' := by
        intro a' w' Γ' hst hsat h
        split at h
        · rename_i hng
          cases h
          exact k a' w' Γ' hst hsat (nogd_of tr.last hng)
        · rw [force_eq] at h
          cases h
          exact k a' w' Γ' hst (dropGd_sat hsat) (nogd_drop _)
      split at h
      · cases h
      · rename_i hdr
        cases draw with
        | false =>
          refine wpIn_region ?_
          have := aops_ok (rd := rr) (n := nn) (Q := Q) hcall hg ops.toList 0 s [] s1 g1 Γ w a rfl hops hs (hn.rinv _) fun a' w' Γ' hst hsat => post a' w' Γ' hst hsat h
          rwa [← List.range_eq_range', Array.length_toList] at this
        | true =>
          simp only [Bool.and_eq_true] at hdr
          have hd := drawOK_iff hdr.1
          refine wpIn_region_any hm ?_
          have S0 : Step Γ w Γ { w with drawn := w.drawn + 1 } := Step.same hs.inv rfl rfl rfl rfl
          have hs0 : Sat KK H Γ { w with drawn := w.drawn + 1 } s a := ⟨S0.inv, hs.T, hs.tm.ext S0.ext, hs.gl.ext S0.ext, hs.df, KK.step _ _ _ _ hs.inv hs.gd S0⟩
          refine any_ok hcall hg hd hdr.2 tr (Γ0 := Γ) (w0 := w) ?_ ops.size _ a _ ?_ ?_
          · intro L a' w' hJ hall
            obtain ⟨hsz, hcl, Γ', m, e, hsat, hst, hsl, hen, heff⟩ := hJ
            have hfin := trace_slots hd tr ops.toList.length (Nat.le_refl _)
            have hm1 : m = (f ops.toList.length).tm := by
              apply List.ext_getElem?
              intro t
              refine slots_alike hsl hfin hd t fun j o hj _ => ?_
              have hlt := (List.getElem?_eq_some_iff.1 hj).1
              exact ⟨fun _ => hlt, fun _ => hall j (by simpa using hlt)⟩
            have hbx : (f e).bx = (f ops.toList.length).bx := by
              have := between_all tr (ops.toList.length - e) e (by omega) fun j wr h1 h2 h3 => by
                have hjn : j < ops.toList.length := by omega
                have hjs : j < ops.size := by simpa using hjn
                have := (heff j wr hjn h3).1 (hall j hjs)
                omega
              rw [show e + (ops.toList.length - e) = ops.toList.length by omega] at this
              exact this.symm
            rw [hm1, hbx] at hsat
            rw [tr.hn] at hsat
            exact post a' w' Γ' hst hsat h
          · unfold cnt
            have := List.length_filter_le (fun i => !(Array.replicate ops.size false).getD i false) (List.range ops.size)
            simpa using this
          · have hz : ∀ i, (Array.replicate ops.size false).getD i false = false := by
              intro i
              simp only [Array.getD_eq_getD_getElem?, Array.getElem?_replicate]
              split <;> rfl
            refine ⟨by simp, (fun i o _ hL => by rw [hz] at hL; cases hL), Γ, s.tm, 0, ?_, S0, ?_, Nat.zero_le _, fun j wr _ _ => ?_⟩
            · rw [tr.h0]
              exact hs0
            · exact ⟨rfl, (fun j o d _ _ hL => by simp only [hz] at hL; cases hL), fun t _ => rfl⟩
            · rw [hz]
              exact ⟨(fun h => by cases h), fun h => absurd h (Nat.not_lt_zero _)⟩

end
end Go.Im

namespace Go.Im
open Go
set_option linter.unusedVariables false
set_option linter.unusedSimpArgs false
set_option linter.unnecessarySimpa false
set_option linter.unusedSectionVars false
section
variable {P : Program} {H : Hint} {call : CallF} {Γ0 : Cx} {w0 : World} {p : Nat}

theorem res_ok {Γ : Cx} {w : World} {s : St} {a : Act} (hs : At H Γ w s a []) {f : ResultVar → Sem Value} (h1 : ∀ t, f (.tmp t) = pure (a.tmps.getD t undef)) (h2 : ∀ b t, f (.cell b t) = do loadVar t (← asAddr (a.tmps.getD b undef))) :
    ∀ (rs : List ResultVar) (xs : List IV), resOf P H s rs = some xs → ∃ vs : List Value, (rs.mapM f).run P w = .ok vs w ∧ RepL Γ w xs vs
  | [], xs, h => by
    simp only [resOf, Option.some.injEq] at h
    subst h
    exact ⟨[], by simp, rfl⟩
  | .tmp t :: rs, xs, h => by
    simp only [resOf] at h
    split at h
    · rename_i x ys g1 g2
      cases h
      obtain ⟨vs, k1, k2⟩ := res_ok hs h1 h2 rs ys g2
      have hx := ev_rep hs g1
      refine ⟨a.tmps.getD t undef :: vs, by simp [List.mapM_cons, h1, k1], ?_⟩
      simp only [RepL]
      exact ⟨_, vs, rfl, hx, k2⟩
    · cases h
  | .cell b t :: rs, xs, h => by
    simp only [resOf] at h
    split at h
    · rename_i x T kd ys g1 g2
      cases h
      obtain ⟨vs, k1, k2⟩ := res_ok hs h1 h2 rs ys g2
      obtain ⟨y, h3, h4⟩ := Option.bind_eq_some_iff.1 g1
      have hy := ev_rep hs h3
      rw [← hs.T] at h4
      obtain ⟨g, o', v, e1, e2, e3, _⟩ := load_rep hs.inv h4 hy
      have e1 : a.tmps.getD b undef = .pointer (some ⟨g, o', none⟩) := e1
      refine ⟨v :: vs, by simp only [List.mapM_cons, h2, e1]; simp [asAddr, e2, k1], ?_⟩
      simp only [RepL]
      exact ⟨v, vs, rfl, e3, k2⟩
    · cases h

theorem one_rep {Γ : Cx} {w : World} {xs : List IV} {vs : List Value} (h : RepL Γ w xs vs) : Rep Γ w (one xs) (if h : vs.toArray.size = 1 then vs.toArray[0] else .tuple vs.toArray) := by
  have hl := repL_len _ _ h
  cases xs with
  | nil =>
    simp only [RepL] at h
    subst h
    simp only [one, Rep]
    exact ⟨[], rfl, rfl⟩
  | cons x xs =>
    cases xs with
    | nil =>
      obtain ⟨v, rfl, hx⟩ := repL_one h
      exact hx
    | cons y xs =>
      have : ¬ vs.toArray.size = 1 := by simp; simp at hl; omega
      rw [dif_neg this]
      simp only [one, Rep]
      exact ⟨vs, rfl, h⟩

theorem finish_ok {bp : Bool} {Γ : Cx} {w : World} {r : IV} {v : Value} (hf : Fr p Γ0 w0 Γ w) (hr : Rep Γ w r v) : ∃ Γ', Γ'.T = (finish bp p r Γ.T).2 ∧ Fr p Γ0 w0 Γ' w ∧ Rep Γ' w (finish bp p r Γ.T).1 v := by
  have hnd : (reach Γ.T 3 (addNew (List.range p) (refs r))).Nodup := reach_nodup _ _ (addNew_nodup _ _ List.nodup_range)
  have hpre : List.range p <+: reach Γ.T 3 (addNew (List.range p) (refs r)) := List.IsPrefix.trans (addNew_prefix _ _) (reach_prefix _ _)
  unfold finish
  generalize reach Γ.T 3 (addNew (List.range p) (refs r)) = bs at hnd hpre
  exact ⟨Γ.sub bp p bs, rfl, hf.sub hnd (Nat.le_refl _) (prefix_range hpre), ren_rep r v hr⟩


/-- A call that was put off is taken. -/
theorem take_def {Γ : Cx} {w : World} {D : Nat} (hf : Fr p Γ0 w0 Γ w) (hD : w0.heap.size ≤ D) (h : w.heap[D]? = some (Obj.deferred (some []))) (hno : ¬ Γ.ok D) :
    Fr p Γ0 w0 Γ (w.putObj D (.deferred none)) ∧ Ext Γ Γ w (w.putObj D (.deferred none)) := by
  have oth : ∀ g, g ≠ D → (w.putObj D (.deferred none)).heap[g]? = w.heap[g]? := fun g hg => World.putObj_heap_other hg
  have ne_of : ∀ (g : Nat) (o : Obj), w.heap[g]? = some o → (∀ x, o ≠ Obj.deferred x) → g ≠ D := by
    intro g o ho hn e
    subst e
    rw [h] at ho
    cases ho
    exact hn _ rfl
  have he : Ext Γ Γ w (w.putObj D (.deferred none)) := by
    refine ⟨fun g hg => ⟨hg, oth g (fun e => hno (e ▸ hg))⟩, Nat.le_refl _, fun b fz cs _ hT => ⟨fz, cs, hT, rfl, rfl⟩, fun b ver fz e l _ hT => ⟨ver, fz, e, l, hT, Nat.le_refl _, fun _ => ⟨rfl, rfl, rfl, fun g arr ty _ ha => ⟨arr, ?_, rfl⟩⟩⟩, fun b j _ hT => ⟨j, hT, rfl⟩⟩
    rw [oth g (ne_of g _ ha (by simp))]
    exact ha
  have hi : Inv Γ (w.putObj D (.deferred none)) := by
    refine inv_of hf.inv.len (fun g hg => by simpa [World.putObj] using hf.inv.okb g hg) (fun b k hb => ?_) hf.inv.inj
    obtain ⟨og, h1, h2⟩ := inv_blk hf.inv hb
    refine ⟨og, h1, ?_⟩
    cases k with
    | dead => exact trivial
    | var fz cs =>
      refine h2.ext he (fun _ _ _ => Iff.rfl) fun g e => ?_
      subst e
      obtain ⟨g', arr, ty, e, h3, _⟩ := h2
      cases e
      exact oth g (ne_of g _ h3 (by simp))
    | row ver fz e l =>
      refine h2.ext he (fun _ _ _ => Iff.rfl) fun g e => ?_
      subst e
      rcases h2 with ⟨e, _⟩ | ⟨g', arr, ty, e, h3, _⟩
      · cases e
      · cases e
        exact oth g (ne_of g _ h3 (by simp))
    | lp j =>
      refine h2.ext he (fun _ _ _ => Iff.rfl) fun g e => ?_
      subst e
      obtain ⟨g', r, e, h3, _⟩ := h2
      cases e
      exact oth g (ne_of g _ h3 (by simp))
  refine ⟨⟨hi, ⟨fun g r hg => ?_, hf.frm.os, hf.frm.tape, hf.frm.output, by simpa [World.putObj] using hf.frm.size, fun g hg hn => ?_⟩, hf.own, hf.okp, hf.liv, fun g hg => ?_, hf.len, hf.var, fun b ver fz e l hb hT => ?_, hf.lp⟩, he⟩
  · obtain ⟨r', h1, h2⟩ := hf.frm.lps g r hg
    exact ⟨r', (oth g (ne_of g _ h1 (by simp))).trans h1, h2⟩
  · rw [oth g (by omega)]
    exact hf.frm.heap g hg hn
  · obtain ⟨h1, h2⟩ := hf.ok g hg
    exact ⟨h1, (oth g (fun e => hno (e ▸ h1))).trans h2⟩
  · obtain ⟨v0, fz0, e0, l0, h1, h2⟩ := hf.row b ver fz e l hb hT
    refine ⟨v0, fz0, e0, l0, h1, fun hv => ?_⟩
    obtain ⟨k1, k2, k3, k4, k5⟩ := h2 hv
    refine ⟨k1, k2, k3, k4, fun g arr ty hg ha => ?_⟩
    obtain ⟨arr', m1, m2⟩ := k5 g arr ty hg ha
    exact ⟨arr', (oth g (ne_of g _ m1 (by simp))).trans m1, m2⟩

/-- All calls that were put off are taken; what is then. -/
theorem leaves {fn : Func} {R : Ending → World → Prop} {s : St} {tmps : Array Value} {Γ : Cx} (hno : NoGd s.tm)
    (post : ∀ w, Fr p Γ0 w0 Γ w → At H Γ w s { tmps := tmps, defers := [] } [] → ∃ v, (results fn tmps).run P w = .ok v w ∧ R (.returned v) w) :
    ∀ (Ds : List Nat) (w : World), Fr p Γ0 w0 Γ w → At H Γ w s { tmps := tmps, defers := [] } [] → Ds.Nodup → (∀ D ∈ Ds, w0.heap.size ≤ D ∧ w.heap[D]? = some (Obj.deferred (some [])) ∧ ¬ Γ.ok D) →
      LeavesInM (FW none) 0 P fn tmps R (Ds.map fun D => { target := .collected D, args := #[] }) .returning w
  | [], w, hf, hat, _, _ => post w hf hat
  | D :: Ds, w, hf, hat, hnd, hD => by
    obtain ⟨h1, h2, h3⟩ := hD D List.mem_cons_self
    obtain ⟨hn1, hn2⟩ := List.nodup_cons.1 hnd
    obtain ⟨hf', he⟩ := take_def hf h1 h2 h3
    refine ⟨by simp, .inl ⟨D, _, rfl, run_takeDeferred h2, ?_⟩⟩
    refine leaves hno post Ds _ hf' ⟨hf'.inv, hat.T, hat.tm.ext he, hat.ch, hat.gl.ext he⟩ hn2 fun D' hD' => ?_
    obtain ⟨k1, k2, k3⟩ := hD D' (List.mem_cons_of_mem _ hD')
    exact ⟨k1, (World.putObj_heap_other (fun e => hn1 (by rw [← e]; exact hD'))).trans k2, k3⟩

/-- A FUNCTION, out of its code. -/
theorem fn_ok {K : KC} {it : ItF} {f : FuncId} {fn : Func} {c : Code} {k : Nat} {kp : Keep} {Γ : Cx} {w : World} {as : List IV} {vs : List Value} {ex : Ex} {s : St} {R : Ending → World → Prop}
    (hfn : P.funcs[f]? = some fn) (hc : fn.body = some c) (henv : Env K P H call it none) (hn0 : K.n0 = w.heap.size) (hq : K.q ≤ Γ.T.length) (hi : Inv Γ w) (hgl : GlOK H Γ w) (hG : K.G Γ w)
    (hr : RepL Γ w as vs) (hgas : NoGd as) (hex : aexec P H call it k Γ.T.length kp c { tm := as ++ List.replicate (fn.ntmps - as.length) .undef, bx := Γ.T } = some (ex, s)) (he : ex = .normal ∨ ex = .ret)
    (post : ∀ (tmps : Array Value) (w' : World) (Γ' : Cx), Fr Γ.T.length Γ w Γ' w' → At H Γ' w' s { tmps := tmps, defers := [] } [] → ∃ v, (results fn tmps).run P w' = .ok v w' ∧ R (.returned v) w') : Calls P f vs.toArray w R := by
  have hl := repL_len _ _ hr
  refine (callsIn_fw (r := none) (n := 0)).1 (callsIn_of_wp_marks hfn hc trivial ?_)
  have hsat : Sat K H Γ w { tm := as ++ List.replicate (fn.ntmps - as.length) .undef, bx := Γ.T } { tmps := vs.toArray ++ Array.replicate (fn.ntmps - vs.toArray.size) undef, defers := [] } := by
    refine ⟨hi, rfl, ⟨by simp [hl], fun t x hx => ?_⟩, hgl, DfOK.nil _ _ _, hG⟩
    by_cases ht : t < as.length
    · rw [List.getElem?_append_left ht] at hx
      have := repL_drop t hr
      rw [List.drop_eq_getElem_cons ht] at this
      simp only [RepL] at this
      obtain ⟨v, us, e, hxv, _⟩ := this
      have hvt : vs[t]? = some v := by
        have h0 : (vs.drop t)[0]? = some v := by rw [e]; rfl
        rwa [List.getElem?_drop, Nat.add_zero] at h0
      have : (vs.toArray ++ Array.replicate (fn.ntmps - vs.toArray.size) undef).getD t undef = v := by
        simp only [Array.getD_eq_getD_getElem?]
        rw [Array.getElem?_append_left (by simpa using (List.getElem?_eq_some_iff.1 hvt).1)]
        simp [hvt]
      rw [this]
      rw [List.getElem?_eq_getElem ht] at hx
      cases hx
      exact hxv
    · rw [List.getElem?_append_right (by omega)] at hx
      have := List.getElem?_replicate (n := fn.ntmps - as.length) (a := IV.undef) (i := t - as.length)
      rw [this] at hx
      split at hx
      · cases hx; trivial
      · cases hx
  have hno : NoGd (as ++ List.replicate (fn.ntmps - as.length) .undef) := by
    intro t j u c x hx
    by_cases ht : t < as.length
    · rw [List.getElem?_append_left ht] at hx
      exact hgas t j u c x hx
    · rw [List.getElem?_append_right (by omega), List.getElem?_replicate] at hx
      split at hx <;> cases hx
  refine (exec_both c).1 K it none 0 k Γ.T.length Γ.T.length kp Γ w henv (by omega) hq (Nat.le_refl _) _ ex s Γ w _ _ hex (Fr.refl hi (Nat.le_refl _)) hsat hno fun a' w' Γ' hf hs hng => ?_
  obtain ⟨Ds, d1, d2, d3⟩ := hs.df
  have key : LeavesInM (FW none) 0 P fn a'.tmps R a'.defers .returning w' := by
    rw [d1]
    refine leaves (s := s) hng (fun w'' hf' hat => post _ w'' Γ' hf' hat) Ds w' hf ⟨hs.inv, hs.T, hs.tm, ChOK.nil _, hs.gl⟩ d2 fun D hD => ?_
    obtain ⟨h1, h2, h3⟩ := d3 D hD
    exact ⟨by omega, h2, h3⟩
  rcases he with rfl | rfl <;> exact key

theorem env_of (hm : P.follows .mixedOrders = true) (hsz : P.funcs.size ≤ YID) (hcall : CallOK P H call) {K : KC} {it : ItF}
    (hit : ∀ g as T Y T1, it g as T Y = some T1 → (∃ fn, P.funcs[g]? = some fn ∧ fn.name ≠ "runtime.NumGoroutine" ∧ fn.body.isSome = true) ∧ ItSem P H g as T Y T1) : Env K P H call it none :=
  ⟨reg_ok hm (hcall.calls hsz), fun g as T Y T1 h => ⟨rfl, fun K' => reg_ok hm (hcall.calls hsz), hit g as T Y T1 h⟩⟩

theorem results_one {Γ : Cx} {w : World} {s : St} {fn : Func} {tmps : Array Value} {rs : List IV} (hat : At H Γ w s { tmps := tmps, defers := [] } []) (hrs : resOf P H s fn.results.toList = some rs) :
    ∃ v, (results fn tmps).run P w = .ok v w ∧ Rep Γ w (one rs) v := by
  let F : ResultVar → Sem Value := fun | .tmp t => pure (tmps.getD t undef) | .cell a t => do loadVar t (← asAddr (tmps.getD a undef))
  obtain ⟨us, k1, k2⟩ := res_ok (P := P) hat (f := F) (fun _ => rfl) (fun _ _ => rfl) _ rs hrs
  refine ⟨_, ?_, one_rep k2⟩
  unfold results
  simp only [Array.mapM_eq_mapM_toList, Sem.run_bind, Sem.run_map]
  change ((Sem.run P (List.mapM F fn.results.toList) w).andThen (fun a w' => .ok a.toArray w')).andThen (fun a w' => Sem.run P (pure (if h : a.size = 1 then a[0] else Value.tuple a)) w') = _
  rw [k1]
  rfl

theorem callY_ok {K : KC} {Y : YF} (hsz : P.funcs.size ≤ YID) (hcall : CallOK P H call) (hY : YieldOK K P H Y) : CallsOK K P H (callY call Y) := by
  refine ⟨fun f as T r T1 h => ?_, ?_⟩
  · dsimp only at h
    split at h
    · cases h
    · rename_i hb
      unfold callY at h
      rw [hb] at h
      exact hcall f as T r T1 h
  · have : callY call Y YID = Y := by
      funext as T
      simp [callY]
    rw [this]
    exact hY

/-- Functions that loops go over. -/
theorem aiter_ok (hm : P.follows .mixedOrders = true) (hsz : P.funcs.size ≤ YID) (hng : ∀ (f : FuncId) (fn : Func), P.funcs[f]? = some fn → fn.body.isSome = true → fn.name ≠ "runtime.NumGoroutine") (hcall : CallOK P H call) (k : Nat) :
    ∀ g as T Y T1, aiter P H call k g as T Y = some T1 → (∃ fn, P.funcs[g]? = some fn ∧ fn.name ≠ "runtime.NumGoroutine" ∧ fn.body.isSome = true) ∧ ItSem P H g as T Y T1 := by
  intro g as T Y T1 h
  unfold aiter at h
  split at h
  · rename_i fn hfn
    split at h
    · rename_i c hc
      refine ⟨⟨fn, hfn, hng g fn hfn (by rw [hc]; rfl), by rw [hc]; rfl⟩, ?_⟩
      intro K Γ w vs hn0 hq hY hi hT hgl hG hr hgas
      subst hT
      have main : ∀ (ex : Ex) (s : St), aexec P H (callY call Y) noIt k Γ.T.length (H.kp g) c { tm := as ++ List.replicate (fn.ntmps - as.length) .undef, bx := Γ.T } = some (ex, s) → (ex = .normal ∨ ex = .ret) →
          (match fn.results.toList with | [] => some s.bx | _ => none) = some T1 → Calls P g vs.toArray w fun e w' => ∃ v Γ', e = .returned v ∧ Γ'.T = T1 ∧ Fr Γ.T.length Γ w Γ' w' := by
        intro ex s hex he hT1
        split at hT1
        · rename_i hres
          cases hT1
          refine fn_ok hfn hc ⟨reg_ok hm (callY_ok hsz hcall hY), fun g as T Y T1 h => by cases h⟩ hn0 hq hi hgl hG hr hgas hex he fun tmps w' Γ' hf hat => ?_
          obtain ⟨v, h1, _⟩ := results_one (rs := []) (P := P) (fn := fn) hat (by rw [hres]; rfl)
          exact ⟨v, h1, v, Γ', rfl, hat.T, hf⟩
        · cases hT1
      split at h
      · rename_i s hex
        exact main _ s hex (.inl rfl) h
      · rename_i s hex
        exact main _ s hex (.inr rfl) h
      · cases h
    · cases h
  · cases h

/-- What a table of other functions must do. -/
def OvrOK (P : Program) (H : Hint) (ovr : FuncId → Option CallF) : Prop := ∀ f F, ovr f = some F → CallOK P H fun g as T => if g = f then F f as T else none

/-- One call of a function, its own calls by another machine. -/
noncomputable def bodyF (P : Program) (H : Hint) (call : CallF) (k : Nat) : CallF := fun f xs T => match P.funcs[f]? with
  | some fn => match fn.body with
    | some c => match aexec P H call (aiter P H call k) k T.length (H.kp f) c { tm := xs ++ List.replicate (fn.ntmps - xs.length) .undef, bx := T } with
      | some (.normal, s) | some (.ret, s) => match resOf P H s fn.results.toList with
        | some rs => some (finish (H.kp f).bp T.length (one rs) s.bx)
        | none => none
      | _ => none
    | none => none
  | none => none
theorem body_ok (hm : P.follows .mixedOrders = true) (hsz : P.funcs.size ≤ YID) (hng : ∀ (f : FuncId) (fn : Func), P.funcs[f]? = some fn → fn.body.isSome = true → fn.name ≠ "runtime.NumGoroutine") (hcall : CallOK P H call)
    (k : Nat) : CallOK P H (bodyF P H call k) := fun f as T r T1 h => by
  simp only [bodyF] at h
  split at h
  · rename_i fn hfn
    split at h
    · rename_i c hc
      refine ⟨⟨fn, hfn, hng f fn hfn (by rw [hc]; rfl), by rw [hc]; rfl⟩, ?_⟩
      intro Γ w vs hi hT hgl hr hgas
      subst hT
      have main : ∀ (ex : Ex) (s : St), aexec P H call (aiter P H call k) k Γ.T.length (H.kp f) c { tm := as ++ List.replicate (fn.ntmps - as.length) .undef, bx := Γ.T } = some (ex, s) → (ex = .normal ∨ ex = .ret) →
          (match resOf P H s fn.results.toList with | some rs => some (finish (H.kp f).bp Γ.T.length (one rs) s.bx) | none => none) = some (r, T1) →
          Calls P f vs.toArray w fun e w' => ∃ v Γ', e = .returned v ∧ Γ'.T = T1 ∧ Fr Γ.T.length Γ w Γ' w' ∧ Rep Γ' w' r v := by
        intro ex s hex he h
        split at h
        · rename_i rs hrs
          simp only [Option.some.injEq] at h
          refine fn_ok (K := KC.plain w.heap.size) hfn hc (env_of hm hsz hcall (aiter_ok hm hsz hng hcall k)) rfl (Nat.zero_le _) hi hgl trivial hr hgas hex he fun tmps w' Γ' hf hat => ?_
          obtain ⟨v, h1, h2⟩ := results_one hat hrs
          obtain ⟨Γ2, g1, g2, g3⟩ := finish_ok (bp := (H.kp f).bp) hf h2
          rw [hat.T, h] at g1 g3
          exact ⟨v, h1, v, Γ2, rfl, g1, g2, g3⟩
        · cases h
      split at h
      · rename_i s hex
        exact main _ s hex (.inl rfl) h
      · rename_i s hex
        exact main _ s hex (.inr rfl) h
      · cases h
    · cases h
  · cases h

/-- THE IDEAL MACHINE IS SOUND. -/
theorem sound (hm : P.follows .mixedOrders = true) (hsz : P.funcs.size ≤ YID) (hng : ∀ (f : FuncId) (fn : Func), P.funcs[f]? = some fn → fn.body.isSome = true → fn.name ≠ "runtime.NumGoroutine")
    {ovr : FuncId → Option CallF} (hovr : OvrOK P H ovr) : ∀ k, CallOK P H (acall P H ovr k)
  | 0 => fun f as T r T1 h => by simp [acall] at h
  | k + 1 => fun f as T r T1 h => by
    simp only [acall] at h
    split at h
    · rename_i F hF
      exact hovr f F hF f as T r T1 (by simpa using h)
    · exact body_ok hm hsz hng (sound hm hsz hng hovr k) k f as T r T1 h
end
end Go.Im

namespace Go.Im
open Go
set_option linter.unusedVariables false
set_option linter.unusedSimpArgs false
set_option linter.unnecessarySimpa false
set_option linter.unusedSectionVars false

/-! ### What the arguments may be -/
def FieldsT (T : TypeId → List IV → Prop) : List Field → List IV → Prop
  | [], l => l = []
  | f :: fs, l => ∃ a b, l = a ++ b ∧ T f.type a ∧ FieldsT T fs b
def ArrT (T : List IV → Prop) : Nat → List IV → Prop
  | 0, l => l = []
  | m + 1, l => ∃ a b, l = a ++ b ∧ T a ∧ ArrT T m b
/-- The cells of a value of a type. -/
def Ty (P : Program) : Nat → TypeId → List IV → Prop
  | 0, _, _ => False
  | n + 1, t, l => match P.underlying t with
    | some .bool => ∃ b, l = [.bool b]
    | some (.int k) => ∃ i, l = [.int k i] ∧ (Lit.int k i).wf = true
    | some .string => ∃ s : List UInt8, l = [.str s] ∧ s.length ≤ reachBytes
    | some (.slice e) => ∃ nl cl es, l = [.fsl (some nl) cl (P.cellsOf e) es] ∧ (nl = true → es = [] ∧ cl = true) ∧ es.length * P.bytesOf e ≤ reachBytes ∧ es.length ≤ maxLen ∧
        ∀ x ∈ es, ∃ cs, pack P e cs = some x ∧ cellsOK cs = true ∧ Ty P n e cs
    | some (.struct fs) => FieldsT (Ty P n) fs.toList l
    | some (.array m e) => ArrT (Ty P n e) m l
    | _ => False

def layEnd (P : Program) : Nat → List Field → Option Nat
  | o, [] => some o
  | o, f :: fs => match Nat.beq f.offset o with
    | true => layEnd P (o + P.cellsOf f.type) fs
    | false => none
/-- Types that are told of here, closed under what they are made of. -/
def typesOK (P : Program) (L : List TypeId) : Bool := L.all fun t => match P.underlying t with
  | some .bool | some (.int _) | some .string => true
  | some (.slice e) => L.contains e && Nat.blt 0 (P.cellsOf e)
  | some (.struct fs) => (fs.toList.all fun f => L.contains f.type) && (match layEnd P 0 fs.toList with | some n => Nat.beq n (P.cellsOf t) | none => false)
  | some (.array m e) => L.contains e && Nat.beq (m * P.cellsOf e) (P.cellsOf t)
  | _ => false

theorem len_sub {len j : Nat} (h : j + 1 ≤ len) : len - j = (len - (j + 1)) + 1 := by omega
theorem cellsOK_append {a b : List IV} (ha : cellsOK a = true) (hb : cellsOK b = true) : cellsOK (a ++ b) = true := by
  simp only [cellsOK, List.all_append, Bool.and_eq_true] at *
  exact ⟨ha, hb⟩

section
variable {H : Type} {enc : TypeId × Value → H} {P : Program} {w : World} {held : Bool} {ok : Nat → Prop} {sp : Nat → Bool}

theorem weights_all {b : Nat} {e : TypeId} : ∀ (ds : List (DataW H)), (DataW.weightsAll P e ds).all (· ≤ b) = true → ∀ (i : Nat) d, ds[i]? = some d → (d.weights P e).all (· ≤ b) = true
  | [], _, i, d, h2 => by simp at h2
  | d :: ds, h, i, x, h2 => by
    simp only [DataW.weightsAll, List.all_append, Bool.and_eq_true] at h
    cases i with
    | zero => simp at h2; subst h2; exact h.1
    | succ i => exact weights_all ds h.2 i x (by simpa using h2)

/-- A struct's cells out of its fields'. -/
theorem fields_of {n : Nat} {L : List TypeId} (cs : List Value)
    (ih : ∀ t (us : List Value) (d : DataW H) ps, t ∈ L → DataW.trod enc P w 0 sp held n t us = some (d, ps) → (d.weights P t).all (· ≤ reachBytes) = true →
      ∃ l x, RepCL ok w l us ∧ cellsOK l = true ∧ Ty P n t l ∧ pack P t l = some x) :
    ∀ (fs : List Field) (xs : List (DataW H × List MemPlace)) (o e : Nat), layEnd P o fs = some e → e = cs.length → (∀ f ∈ fs, f.type ∈ L) → xs.length = fs.length →
      (∀ (i : Nat) (f : Field), fs[i]? = some f → DataW.trod enc P w 0 sp held n f.type ((cs.drop f.offset).take (P.cellsOf f.type)) = xs[i]?) →
      (DataW.weightsEach P (fs.map (·.type)) (xs.map (·.1))).all (· ≤ reachBytes) = true → o ≤ cs.length →
      ∃ l, RepCL ok w l (cs.drop o) ∧ cellsOK l = true ∧ FieldsT (Ty P n) fs l
  | [], xs, o, e, h1, h2, _, _, _, _, _ => by
    simp only [layEnd, Option.some.injEq] at h1
    refine ⟨[], ?_, rfl, rfl⟩
    simp only [RepCL]
    rw [h1, h2, List.drop_length]
  | f :: fs, [], _, _, _, _, _, hl, _, _, _ => by simp at hl
  | f :: fs, x :: xs, o, e, h1, h2, hL, hl, hx, hw, ho => by
    simp only [layEnd] at h1
    split at h1
    · rename_i hb
      have hb := Nat.eq_of_beq_eq_true hb
      have h0 := hx 0 f rfl
      simp only [List.getElem?_cons_zero] at h0
      simp only [List.map_cons, DataW.weightsEach, List.all_append, Bool.and_eq_true] at hw
      obtain ⟨l, y, k1, k2, k3, k4⟩ := ih f.type _ x.1 x.2 (hL f (List.mem_cons_self ..)) h0 hw.1
      have hn : o + P.cellsOf f.type ≤ cs.length := by
        rw [← h2]
        clear ih hx hw h0 k1 k2 k3 k4 hL hl h2 ho
        have : ∀ (fs : List Field) (a e : Nat), layEnd P a fs = some e → a ≤ e := by
          intro fs
          induction fs with
          | nil => intro a e h; simp only [layEnd, Option.some.injEq] at h; omega
          | cons f fs ih =>
            intro a e h
            simp only [layEnd] at h
            split at h
            · have := ih _ _ h; omega
            · cases h
        exact this _ _ _ h1
      obtain ⟨m, m1, m2, m3⟩ := fields_of cs ih fs xs _ e h1 h2 (fun g hg => hL g (List.mem_cons_of_mem _ hg)) (by simpa using hl) (fun i g hg => by
        have := hx (i + 1) g (by simpa using hg)
        simpa using this) hw.2 hn
      refine ⟨l ++ m, ?_, cellsOK_append k2 m2, ⟨l, m, rfl, k3, m3⟩⟩
      have : cs.drop o = (cs.drop f.offset).take (P.cellsOf f.type) ++ cs.drop (o + P.cellsOf f.type) := by
        rw [hb, ← List.drop_drop, List.take_append_drop]
      rw [this]
      exact repCL_append k1 m1
    · cases h1

theorem arr_of {n e : Nat} (cs : List Value)
    (ih : ∀ (us : List Value) (d : DataW H) ps, DataW.trod enc P w 0 sp held n e us = some (d, ps) → (d.weights P e).all (· ≤ reachBytes) = true →
      ∃ l x, RepCL ok w l us ∧ cellsOK l = true ∧ Ty P n e l ∧ pack P e l = some x) :
    ∀ (m j : Nat) (xs : List (DataW H × List MemPlace)), (j + m) * P.cellsOf e = cs.length → xs.length = m →
      (∀ (i : Nat), i < m → DataW.trod enc P w 0 sp held n e ((cs.drop ((j + i) * P.cellsOf e)).take (P.cellsOf e)) = xs[i]?) →
      (DataW.weightsAll P e (xs.map (·.1))).all (· ≤ reachBytes) = true →
      ∃ l, RepCL ok w l (cs.drop (j * P.cellsOf e)) ∧ cellsOK l = true ∧ ArrT (Ty P n e) m l
  | 0, j, xs, h1, _, _, _ => by
    refine ⟨[], ?_, rfl, rfl⟩
    simp only [RepCL]
    rw [show j * P.cellsOf e = cs.length from h1, List.drop_length]
  | m + 1, j, [], _, hl, _, _ => by simp at hl
  | m + 1, j, x :: xs, h1, hl, hx, hw => by
    have h0 := hx 0 (by omega)
    simp only [List.getElem?_cons_zero] at h0
    simp only [List.map_cons, DataW.weightsAll, List.all_append, Bool.and_eq_true] at hw
    obtain ⟨l, y, k1, k2, k3, k4⟩ := ih _ x.1 x.2 h0 hw.1
    obtain ⟨q, m1, m2, m3⟩ := arr_of cs ih m (j + 1) xs (by rw [← h1]; congr 1; omega) (by simpa using hl) (fun i hi => by
      have := hx (i + 1) (by omega)
      rw [show j + 1 + i = j + (i + 1) by omega]
      simpa using this) hw.2
    refine ⟨l ++ q, ?_, cellsOK_append k2 m2, ⟨l, q, rfl, k3, m3⟩⟩
    have : cs.drop (j * P.cellsOf e) = (cs.drop ((j + 0) * P.cellsOf e)).take (P.cellsOf e) ++ cs.drop ((j + 1) * P.cellsOf e) := by
      rw [Nat.add_zero, Nat.add_mul, Nat.one_mul, ← List.drop_drop, List.take_append_drop]
    rw [this]
    exact repCL_append k1 m1

theorem pack_leaf {t : TypeId} {y : IV} (h : isAggT P t = some false) : pack P t [y] = some y := by
  simp [pack, h]

theorem pack_agg' {t : TypeId} {l : List IV} (h : isAggT P t = some true) (hl : l.length = P.cellsOf t) : pack P t l = some (.agg l) := by
  simp only [pack, h]
  rw [if_pos (by simpa [sizeAt, Program.cellsOf] using hl)]

theorem pack_cells' {e : TypeId} {cs : List IV} {x : IV} (h : pack P e cs = some x) (hc : cellsOK cs = true) : x.cells = cs := by
  rcases pack_some h with ⟨_, _, rfl⟩ | ⟨_, rfl⟩
  · rfl
  · simp only [cellsOK, List.all_cons, List.all_nil, Bool.and_true] at hc
    rw [leaf_cells hc]

/-- WHAT IS READ, AS THE IDEAL MACHINE HAS IT. -/
theorem ty_of_trod {L : List TypeId} (hL : typesOK P L = true) (hok : ∀ g, g < w.heap.size → ok g) : ∀ (n : Nat) t (cs : List Value) (d : DataW H) ps, t ∈ L → DataW.trod enc P w 0 (fun _ => true) held n t cs = some (d, ps) →
    (d.weights P t).all (· ≤ reachBytes) = true → ∃ l x, RepCL ok w l cs ∧ cellsOK l = true ∧ Ty P n t l ∧ pack P t l = some x
  | 0, t, cs, d, ps, _, h, _ => by simp [DataW.trod] at h
  | n + 1, t, cs, d, ps, ht, h, hw => by
    have ih := ty_of_trod hL hok n
    have one : ∀ (y : IV) (v : Value), leaf y = true → RepC ok w y v → RepCL ok w [y] [v] ∧ cellsOK [y] = true := by
      intro y v h1 h2
      refine ⟨by simp only [RepCL]; exact ⟨v, [], rfl, h2, rfl⟩, by simp [cellsOK, h1]⟩
    have hT := List.all_eq_true.1 hL t ht
    split at hT
    · rename_i hu
      obtain ⟨b, rfl, e⟩ := DataW.trod_bool hu h
      obtain ⟨k1, k2⟩ := one (.bool b) (.bool b) rfl (by simp [RepC])
      refine ⟨_, _, k1, k2, ?_, pack_leaf (by simp [isAggT, hu])⟩
      unfold Ty; rw [hu]; exact ⟨b, rfl⟩
    · rename_i k hu
      obtain ⟨i, rfl, e, hwf⟩ := DataW.trod_int hu h
      obtain ⟨k1, k2⟩ := one (.int k i) (.int k i) rfl (by simp [RepC])
      refine ⟨_, _, k1, k2, ?_, pack_leaf (by simp [isAggT, hu])⟩
      unfold Ty; rw [hu]; exact ⟨i, rfl, hwf⟩
    · rename_i hu
      obtain ⟨s, rfl, e, hs⟩ := DataW.trod_string hu h
      cases e
      obtain ⟨k1, k2⟩ := one (.str s.data.toList) (.string s) rfl (by simp [RepC])
      refine ⟨_, _, k1, k2, ?_, pack_leaf (by simp [isAggT, hu])⟩
      unfold Ty; rw [hu]
      refine ⟨_, rfl, ?_⟩
      simpa [DataW.weights] using hw
    · rename_i e hu
      simp only [Bool.and_eq_true, List.contains_iff_mem] at hT
      obtain ⟨he, hz⟩ := hT
      have hz : 0 < P.cellsOf e := by simpa [Nat.blt_eq] using hz
      rcases DataW.trod_slice hu h with ⟨rfl, hx⟩ | ⟨a, len, cap, elems, rest, m, hm, rfl, hx, hb, hlc, hcm, hlen, hel, hre, _⟩
      · cases hx
        obtain ⟨k1, k2⟩ := one (.fsl (some true) true (P.cellsOf e) []) (.slice none 0 0) rfl (by simp [RepC]; exact ⟨none, 0, ⟨rfl, rfl⟩, rfl, rfl⟩)
        refine ⟨_, _, k1, k2, ?_, pack_leaf (by simp [isAggT, hu])⟩
        unfold Ty; rw [hu]
        refine ⟨true, true, [], rfl, fun _ => ⟨rfl, rfl⟩, ?_, ?_, fun x hx => by cases hx⟩
        · simp
        · simp
      · obtain rfl : n = m := by omega
        simp only [Prod.mk.injEq] at hx
        obtain ⟨rfl, _⟩ := hx
        have hw0 := hw
        simp only [DataW.weights, hu, List.all_cons, List.all_append, Bool.and_eq_true, decide_eq_true_eq, List.length_map] at hw
        obtain ⟨hw1, hw2, _⟩ := hw
        obtain ⟨hr1, hr2⟩ := hre rfl
        have hsp : 0 < len → a.spot = none ∧ a.block < w.heap.size := by
          intro h0l
          have h0 := hel 0 h0l
          cases hy : elems[0]? with
          | none => rw [List.getElem?_eq_none_iff] at hy; omega
          | some y =>
            rw [hy] at h0
            obtain ⟨vs, h1, h2⟩ := Option.bind_eq_some_iff.1 h0
            simp only [World.cells?, Nat.zero_le, if_true] at h1
            have := mapM_some_get h1 0 0 (by simp [hz])
            have hvl := mapM_some_length h1
            simp only [List.length_range] at hvl
            rw [List.getElem?_eq_getElem (by omega)] at this
            simp only [Nat.zero_mul, Addr.add, if_true] at this
            refine ⟨World.cell?_spot this, ?_⟩
            simp only [World.cell?] at this
            split at this
            · rename_i h9
              exact (Array.getElem?_eq_some_iff.1 h9).1
            · cases this
        have hes : ∀ j, j ≤ len → ∃ es : List IV, es.length = j ∧ (∀ x ∈ es, ∃ cs, pack P e cs = some x ∧ cellsOK cs = true ∧ Ty P n e cs) ∧
            (j = 0 ∨ (a.spot = none ∧ ok a.block ∧ RepEs ok w (P.cellsOf e) a.block (a.off + (len - j) * P.cellsOf e) es)) := by
          intro j
          induction j with
          | zero => intro _; exact ⟨[], rfl, fun x hx => (by cases hx), .inl rfl⟩
          | succ j ihj =>
            intro hj
            obtain ⟨es, q1, q2, q3⟩ := ihj (by omega)
            have hlt : len - (j + 1) < len := by omega
            have h0 := hel _ hlt
            cases hy : elems[len - (j + 1)]? with
            | none => rw [List.getElem?_eq_none_iff] at hy; omega
            | some y =>
              rw [hy] at h0
              obtain ⟨vs, h1, h2⟩ := Option.bind_eq_some_iff.1 h0
              obtain ⟨l, x, k1, k2, k3, k4⟩ := ih e vs y.1 y.2 he h2 (weights_all _ hw2 (len - (j + 1)) y.1 (by rw [List.getElem?_map, hy]; rfl))
              have hvl : vs.length = P.cellsOf e := by
                simp only [World.cells?, Nat.zero_le, if_true] at h1
                rw [mapM_some_length h1]; simp
              have hcell : ∀ i v, vs[i]? = some v → w.cell? ((a.add ((len - (j + 1)) * P.cellsOf e)).add i) = some v := by
                intro i v hi
                simp only [World.cells?, Nat.zero_le, if_true] at h1
                have hil : i < P.cellsOf e := by rw [← hvl]; exact (List.getElem?_eq_some_iff.1 hi).1
                have := mapM_some_get h1 i i (by simp [hil])
                rw [hi] at this
                exact this
              obtain ⟨v0, hv0⟩ : ∃ v0, vs[0]? = some v0 := ⟨_, List.getElem?_eq_getElem (by omega)⟩
              have hc0 := hcell 0 v0 hv0
              obtain ⟨hspot, hblk⟩ := hsp (by omega)
              refine ⟨x :: es, by simp [q1], ?_, .inr ⟨hspot, hok _ hblk, ?_⟩⟩
              · intro z hz
                rcases List.mem_cons.1 hz with rfl | hz
                · exact ⟨l, k4, k2, k3⟩
                · exact q2 z hz
              · rw [RepEs_cons]
                obtain ⟨ab, ao, as⟩ := a
                simp only at hspot
                subst hspot
                have hcells := pack_cells' k4 k2
                refine ⟨⟨by rw [hcells, ← repCL_len _ _ k1, hvl], ?_⟩, ?_⟩
                · rw [hcells]
                  refine repCs_of l vs _ k2 k1 fun i v hi => ?_
                  have := hcell i v hi
                  rw [add_lit', add_lit'] at this
                  exact this
                · rcases q3 with rfl | ⟨_, _, q3⟩
                  · have : es = [] := List.eq_nil_of_length_eq_zero q1
                    subst this
                    simp only [RepEs]
                  · have e0 : len - j = (len - (j + 1)) + 1 := len_sub hj
                    rw [e0, Nat.add_mul, Nat.one_mul, ← Nat.add_assoc] at q3
                    exact q3
        obtain ⟨es, q1, q2, q3⟩ := hes len (Nat.le_refl _)
        obtain ⟨k1, k2⟩ := one (.fsl (some false) rest.isEmpty (P.cellsOf e) es) (.slice (some a) len cap) rfl (by
          simp only [RepC]
          refine ⟨some a, cap, by rw [q1], by omega, fun hcl => ?_, (fun h => by cases h), (fun _ h => by cases h), ?_⟩
          · have : rest = [] := by simpa using hcl
            subst this
            simp at hr1
            omega
          · rcases q3 with rfl | ⟨q3, q4, q5⟩
            · exact .inl (List.eq_nil_of_length_eq_zero q1)
            · refine .inr ⟨a.block, a.off, ?_, q4, ?_⟩
              · obtain ⟨ab, ao, as⟩ := a
                simp only at q3
                subst q3
                rfl
              · simpa using q5)
        refine ⟨_, _, k1, k2, ?_, pack_leaf (by simp [isAggT, hu])⟩
        unfold Ty; rw [hu]
        refine ⟨false, rest.isEmpty, es, rfl, (fun h => by cases h), ?_, by omega, q2⟩
        have : es.length ≤ elems.length + rest.length := by omega
        exact Nat.le_trans (Nat.mul_le_mul_right _ this) hw1
    · rename_i fs hu
      simp only [Bool.and_eq_true, List.all_eq_true, List.contains_iff_mem] at hT
      obtain ⟨hT1, hT2⟩ := hT
      obtain ⟨xs, m, hm, hx, hcl, hxl, hxs⟩ := DataW.trod_struct hu h
      obtain rfl : n = m := by omega
      simp only [Prod.mk.injEq] at hx
      obtain ⟨rfl, _⟩ := hx
      simp only [DataW.weights, hu] at hw
      split at hT2
      · rename_i en hen
        have hen2 := Nat.eq_of_beq_eq_true hT2
        obtain ⟨l, k1, k2, k3⟩ := fields_of (ok := ok) cs ih fs.toList xs 0 en hen (by rw [hen2, hcl]) hT1 (by simpa using hxl) (fun i f hf => hxs i f (by simpa using hf)) hw (Nat.zero_le _)
        rw [List.drop_zero] at k1
        refine ⟨l, .agg l, k1, k2, ?_, pack_agg' (by simp [isAggT, hu]) ?_⟩
        · unfold Ty; rw [hu]; exact k3
        · rw [← repCL_len _ _ k1, hcl]
      · cases hT2
    · rename_i m e hu
      simp only [Bool.and_eq_true, List.contains_iff_mem] at hT
      obtain ⟨he, hz⟩ := hT
      have hz := Nat.eq_of_beq_eq_true hz
      obtain ⟨xs, q, hm, hx, hcl, hxl, hxs⟩ := DataW.trod_array hu h
      obtain rfl : n = q := by omega
      simp only [Prod.mk.injEq] at hx
      obtain ⟨rfl, _⟩ := hx
      simp only [DataW.weights, hu] at hw
      obtain ⟨l, k1, k2, k3⟩ := arr_of (ok := ok) cs (fun us d ps h hw => ih e us d ps he h hw) m 0 xs (by rw [Nat.zero_add, hz, hcl]) hxl (fun i hi => by rw [Nat.zero_add]; exact hxs i hi) hw
      rw [Nat.zero_mul, List.drop_zero] at k1
      refine ⟨l, .agg l, k1, k2, ?_, pack_agg' (by simp [isAggT, hu]) ?_⟩
      · unfold Ty; rw [hu]; exact k3
      · rw [← repCL_len _ _ k1, hcl]
    · cases hT

/-- A value of a type, out of its cells. -/
theorem repL_of_args {L : List TypeId} (hL : typesOK P L = true) {Γ : Cx} (hok : ∀ g, g < w.heap.size → Γ.ok g) {base : Nat} :
    ∀ (ts : List TypeId) (vs : List Value) (ds : List (DataW H)) (ps : List MemPlace), (∀ t ∈ ts, t ∈ L) →
      (∀ (j : Nat) t v, ts[j]? = some t → vs[j]? = some v → Value.okWide P w .any base t v) →
      DataW.TrodAll enc P w 0 (fun _ => true) true ts vs ds ps → (DataW.weightsEach P ts ds).all (· ≤ reachBytes) = true →
      ∃ as : List IV, RepL Γ w as vs ∧ NoGd as ∧ as.length = ts.length ∧ ∀ (i : Nat) t, ts[i]? = some t → ∃ n l x, Ty P n t l ∧ pack P t l = some x ∧ cellsOK l = true ∧ as[i]? = some x
  | [], [], [], _, _, _, _, _ => ⟨[], by simp [RepL], by intro t j w c x h; simp at h, rfl, fun i t h => by simp at h⟩
  | [], [], _ :: _, _, _, _, h, _ => by simp [DataW.TrodAll] at h
  | [], _ :: _, _, _, _, _, h, _ => by simp [DataW.TrodAll] at h
  | _ :: _, [], _, _, _, _, h, _ => by simp [DataW.TrodAll] at h
  | _ :: _, _ :: _, [], _, _, _, h, _ => by simp [DataW.TrodAll] at h
  | t :: ts, v :: vs, d :: ds, ps, hm, ho, h, hw => by
    simp only [DataW.TrodAll] at h
    obtain ⟨p, q, ⟨n, h1⟩, h2, rfl⟩ := h
    simp only [DataW.weightsEach, List.all_append, Bool.and_eq_true] at hw
    obtain ⟨l, x, k1, k2, k3, k4⟩ := ty_of_trod (ok := Γ.ok) hL hok n t _ d p (hm t (List.mem_cons_self ..)) h1 hw.1
    obtain ⟨as, m1, m2, m3, m4⟩ := repL_of_args hL hok ts vs ds q (fun u hu => hm u (List.mem_cons_of_mem _ hu)) (fun j u z hu hz => ho (j + 1) u z (by simpa using hu) (by simpa using hz)) h2 hw.2
    have hv := ho 0 t v rfl rfl
    have hx : Rep Γ w x v ∧ (∀ j w c y, x ≠ .gd j w c y) := by
      rcases pack_some k4 with ⟨hA, hl, rfl⟩ | ⟨hA, rfl⟩
      · refine ⟨?_, fun j w c y h => by cases h⟩
        have : ∃ cs, v = .agg cs := by
          simp only [isAggT, Option.map_eq_some_iff] at hA
          obtain ⟨u, hu, hA⟩ := hA
          simp only [Value.okWide, hu] at hv
          split at hv
          · obtain ⟨cs, rfl, _⟩ := hv; exact ⟨cs, rfl⟩
          · obtain ⟨cs, rfl, _⟩ := hv; exact ⟨cs, rfl⟩
          · rename_i h9 h10
            split at hA
            · exact absurd rfl (h9 _)
            · exact absurd rfl (h10 _ _)
            · cases hA
        obtain ⟨⟨cs⟩, rfl⟩ := this
        have := repC_rep (Γ := Γ) (w := w) (.agg l) (.agg ⟨cs⟩) (by simp only [RepC]; exact ⟨cs, rfl, k1⟩)
        exact this
      · simp only [RepCL] at k1
        obtain ⟨u, us, e1, h3, h4⟩ := k1
        subst h4
        simp only [cellsOK, List.all_cons, List.all_nil, Bool.and_true] at k2
        refine ⟨?_, fun j w c y h => by subst h; simp [leaf] at k2⟩
        have hvu : v = u := by
          have hna : ∀ cs, v ≠ .agg cs := by
            intro cs e
            subst e
            simp only [isAggT, Option.map_eq_some_iff] at hA
            obtain ⟨ud, hu, hA⟩ := hA
            simp only [Value.okWide, hu] at hv
            cases ud <;> simp_all [Cell.okWide, Cell.ok]
          cases v with
          | agg cs => exact absurd rfl (hna cs)
          | _ => simpa [Value.cells] using e1
        subst hvu
        exact repC_rep _ _ h3
    refine ⟨x :: as, by simp only [RepL]; exact ⟨v, vs, rfl, hx.1, m1⟩, ?_, by simp [m3], ?_⟩
    · intro i j w c y hy
      cases i with
      | zero => simp at hy; exact hx.2 j w c y hy
      | succ i => exact m2 i j w c y (by simpa using hy)
    · intro i u hu
      cases i with
      | zero => simp at hu; subst hu; exact ⟨n, l, x, k3, k4, k2, rfl⟩
      | succ i => simpa using m4 i u (by simpa using hu)
end
end Go.Im

namespace Go.Im
open Go Go.RowKit Go.ChangeShapes
set_option linter.unusedVariables false
set_option linter.unusedSimpArgs false
set_option linter.unnecessarySimpa false
set_option linter.unusedSectionVars false

/-- All memory that stands is frozen. -/
def cx0 (W : World) : Cx := ⟨fun g => g < W.heap.size, [], []⟩

theorem inv0 (W : World) : Inv (cx0 W) W := by
  refine ⟨rfl, fun g h => h, ?_, ?_, ?_, ?_⟩
  · intro b fz cs h; simp [cx0] at h
  · intro b ver fz e l h; simp [cx0] at h
  · intro b j h; simp [cx0] at h
  · intro b b' g k k' h; simp [cx0] at h

theorem own0 (W : World) (g : Nat) : ¬ (cx0 W).own g := by
  rintro ⟨b, k, h, _⟩
  simp [cx0] at h

section
variable {P : Program} {H : Hint}

/-- WHAT THE IDEAL MACHINE ANSWERS, THE MACHINE DOES. -/
theorem law_calls (hm : P.follows .mixedOrders = true) (hsz : P.funcs.size ≤ YID) (hng : ∀ (f : FuncId) (fn : Func), P.funcs[f]? = some fn → fn.body.isSome = true → fn.name ≠ "runtime.NumGoroutine")
    {ovr : FuncId → Option CallF} (hovr : OvrOK P H ovr) {k : Nat} {f : FuncId} {as : List IV} {b : Bool} (hrun : acall P H ovr k f as [] = some (.bool b, []))
    {W : World} (hgl : ∀ g x, H.gl g = some x → RepC (fun g => g < W.heap.size) W x (.pointer (some ⟨g, 0, none⟩))) {vs : List Value} (hr : RepL (cx0 W) W as vs) (hnd : NoGd as) :
    Calls P f vs.toArray W fun e W' => e = .returned (.bool b) ∧ Below W.heap.size W W' := by
  refine ((sound hm hsz hng hovr k f as [] _ _ hrun).2 (cx0 W) W vs (inv0 W) rfl hgl hr hnd).mono ?_
  rintro e W' ⟨v, Γ', rfl, _, hf, hv⟩
  simp only [Rep] at hv
  subst hv
  exact ⟨rfl, hf.frm.os, hf.frm.tape, hf.frm.output, hf.frm.size, fun g hg => hf.frm.heap g hg (own0 W g)⟩

theorem trodAll_stays {H : Type} {enc : TypeId × Value → H} (hl : laidOutB P = true) {W W' : World} {sp : Nat → Bool} : ∀ (ts : List TypeId) (vs : List Value) (ds : List (DataW H)) (ps : List MemPlace),
    (∀ t ∈ ts, P.readableRec t = true ∧ t < P.types.size) → DataW.TrodAll enc P W 0 (fun _ => true) true ts vs ds ps → (∀ p ∈ ps, W.sameAt W' p) → (∀ p ∈ ps, sp p.block = true) → DataW.TrodAll enc P W' 0 sp true ts vs ds ps
  | [], [], [], _, _, h, _, _ => h
  | [], [], _ :: _, _, _, h, _, _ => by simp [DataW.TrodAll] at h
  | [], _ :: _, _, _, _, h, _, _ => by simp [DataW.TrodAll] at h
  | _ :: _, [], _, _, _, h, _, _ => by simp [DataW.TrodAll] at h
  | _ :: _, _ :: _, [], _, _, h, _, _ => by simp [DataW.TrodAll] at h
  | t :: ts, v :: vs, d :: ds, ps, ht, h, hs, hb => by
    simp only [DataW.TrodAll] at h ⊢
    obtain ⟨p, q, h1, h2, rfl⟩ := h
    exact ⟨p, q, WideElems.Trod_stays hl (ht t (List.mem_cons_self ..)).1 (ht t (List.mem_cons_self ..)).2 h1 (fun x hx => hs x (List.mem_append_left _ hx)) (fun x hx => hb x (List.mem_append_left _ hx)),
      trodAll_stays hl ts vs ds q (fun u hu => ht u (List.mem_cons_of_mem _ hu)) h2 (fun x hx => hs x (List.mem_append_right _ hx)) (fun x hx => hb x (List.mem_append_right _ hx)), rfl⟩

theorem trodAll_len {H : Type} {enc : TypeId × Value → H} {W : World} {base : Nat} {sp : Nat → Bool} {held : Bool} : ∀ (ts : List TypeId) (vs : List Value) (ds : List (DataW H)) (ps : List MemPlace),
    DataW.TrodAll enc P W base sp held ts vs ds ps → ds.length = ts.length
  | [], [], [], _, _ => rfl
  | [], [], _ :: _, _, h => by simp [DataW.TrodAll] at h
  | [], _ :: _, _, _, h => by simp [DataW.TrodAll] at h
  | _ :: _, [], _, _, h => by simp [DataW.TrodAll] at h
  | _ :: _, _ :: _, [], _, h => by simp [DataW.TrodAll] at h
  | t :: ts, v :: vs, d :: ds, ps, h => by
    simp only [DataW.TrodAll] at h
    obtain ⟨p, q, h1, h2, rfl⟩ := h
    simp [trodAll_len ts vs ds q h2]

/-- What an argument of a type may be. -/
def ArgT (P : Program) (t : TypeId) (x : IV) : Prop := ∃ n l, Ty P n t l ∧ pack P t l = some x ∧ cellsOK l = true

/-- A LAW'S CALL, out of what the ideal machine answers. -/
theorem law_contract {H' : Type} {enc : TypeId × Value → H'} {f : FuncId} {fn : Func} {s : ChangeSpec} {L : List TypeId} {tb : TypeId} {apart fresh handsOn again : Bool}
    (hm : P.follows .mixedOrders = true) (hszF : P.funcs.size ≤ YID) (hng : ∀ (f : FuncId) (fn : Func), P.funcs[f]? = some fn → fn.body.isSome = true → fn.name ≠ "runtime.NumGoroutine")
    {ovr : FuncId → Option CallF} (hovr : OvrOK P H ovr) (hL : typesOK P L = true)
    (hpl : (fn.params.toList.all fun t => L.contains t && P.readableRec t && Nat.blt t P.types.size) = true) (hlo : laidOutB P = true)
    (hvars : s.vars = []) (hs : ∀ (ds : List (DataW H')), ds.length = fn.params.size → s.fn H' ds = { results := [.lit (.bool true)], args := ds })
    (hres : fn.resultTypes = #[tb]) (hb : P.underlying tb = some .bool)
    (hrun : ∀ as : List IV, as.length = fn.params.size → (∀ (i : Nat) t, fn.params[i]? = some t → ∃ x, as[i]? = some x ∧ ArgT P t x) → ∃ k, acall P H ovr k f as [] = some (.bool true, []))
    {W : World} {base : Nat} {args : Array Value} {ds gs : List (DataW H')} {before : List MemPlace}
    (hval : ∀ (j : Nat) t v, fn.params[j]? = some t → args[j]? = some v → Value.okWide P W .any base t v)
    (hW : DataW.Whole enc P fn.params.toList s.vars apart W args.toList ds gs before)
    (hsz : (DataW.weightsEach P (fn.params.toList ++ s.plain.varTypes P) (ds ++ gs)).all (· ≤ reachBytes) = true)
    (hgl : ∀ g x, H.gl g = some x → RepC (fun g => g < W.heap.size) W x (.pointer (some ⟨g, 0, none⟩))) :
    Calls P f args W fun e W' => ∃ v, e = .returned v ∧ s.post enc P fn apart fresh handsOn again W args v W' := by
  have hW' := hW
  obtain ⟨p, q, hA, hV, rfl, hfz, hnd⟩ := hW
  have hq : gs = [] ∧ q = [] := by
    rw [hvars] at hV
    cases gs with
    | nil => exact ⟨rfl, hV⟩
    | cons => simp [DataW.TrodVars] at hV
  obtain ⟨rfl, rfl⟩ := hq
  have hlen := trodAll_len _ _ _ _ hA
  simp only [List.append_nil, ] at hsz hW'
  have hpl' : ∀ t ∈ fn.params.toList, t ∈ L ∧ P.readableRec t = true ∧ t < P.types.size := by
    intro t ht
    have := List.all_eq_true.1 hpl t ht
    simp only [Bool.and_eq_true, List.contains_iff_mem, Nat.blt_eq] at this
    exact ⟨this.1.1, this.1.2, this.2⟩
  have hw : (DataW.weightsEach P fn.params.toList ds).all (· ≤ reachBytes) = true := by
    have he : s.plain.varTypes P = [] := by simp [DataSpec.varTypes, ChangeSpec.plain, hvars]
    rw [he, List.append_nil] at hsz
    exact hsz
  obtain ⟨as, m1, m2, m3, m4⟩ := repL_of_args (Γ := cx0 W) hL (fun g hg => hg) fn.params.toList args.toList ds p (fun t ht => (hpl' t ht).1) (fun j t v h1 h2 => hval j t v (by simpa using h1) (by simpa using h2)) hA hw
  obtain ⟨k, hk⟩ := hrun as (by simpa using m3) (fun i t ht => by
    obtain ⟨n, l, x, k1, k2, k3, k4⟩ := m4 i t (by simpa using ht)
    exact ⟨x, k4, n, l, k1, k2, k3⟩)
  refine (law_calls hm hszF hng hovr hk hgl m1 m2).mono ?_
  rintro e W' ⟨rfl, bel⟩
  have hold : ∀ x ∈ p, decide (x.block < W.heap.size) = true := fun x hx => by simpa using hW'.lt x hx
  have hargs : ∀ sp : Nat → Bool, (∀ x ∈ p, sp x.block = true) → DataW.TrodAll enc P W' 0 sp true fn.params.toList args.toList ds p :=
    fun sp hsp => trodAll_stays hlo _ _ _ _ (fun t ht => (hpl' t ht).2) hA (fun x hx => bel.same (hW'.lt x hx)) hsp
  have hr : ∀ (b : Nat) (sp : Nat → Bool) (hd : Bool), DataW.TrodAll enc P W' b sp hd fn.resultTypes.toList ((Value.bool true).resultList fn.resultTypes.size) [.lit (.bool true)] [] := by
    intro b sp hd
    rw [hres]
    exact ⟨[], [], ⟨1, by simp [DataW.trod, hb, Value.cells]⟩, rfl, rfl⟩
  have hv : ∀ (sp : Nat → Bool), DataW.TrodVars enc P W' sp s.vars [] [] := by
    intro sp
    rw [hvars]
    rfl
  have hsf : s.fn H' (ds ++ []) = { results := [.lit (.bool true)], args := ds } := by rw [List.append_nil]; exact hs ds (by simpa using hlen)
  refine ⟨_, rfl, ds, [], p, [], p, [], hW', ?_, ?_, ?_, bel.frame _, fun _ => ?_⟩
  · rw [hsf]; exact hr _ _ _
  · rw [hsf]; exact hargs _ hold
  · rw [hsf]; exact hv _
  · have hn : apart = true → p.Nodup := by simpa using hnd
    refine ⟨ok_one hres rfl (okWide_bool_mk hb _), DataW.lit (.bool true) :: ds, [], ([] ++ p) ++ [], ⟨[] ++ p, [], ?_, ?_, rfl, ?_, ?_⟩, ?_⟩
    · exact trodAll_append (hargs _ (fun _ _ => rfl)) (hr _ _ _)
    · exact hv _
    · intro b off hp
      rw [bel.frozen (hW'.lt (.cell b off) (by simpa using hp))]
      exact hfz b off (by simpa using hp)
    · intro ha
      simpa using hn ha
    · intro x hx _
      simpa using hx
end
end Go.Im
