/- Packets that are too heavy: what is proved of the given program. It bears no condition. -/
import Derived.Test.YtphddjolipaejaaWiD
namespace Go.Proofs.Ytphddjolipaejaa
open Go Go.Im
set_option linter.unusedVariables false
set_option linter.unusedSimpArgs false
noncomputable section

/-! ### Heavy -/
def wt (v : XV) : Nat := v.l1.length + v.l2.length
def wts (vs : List XV) : Nat := (vs.map wt).foldr (· + ·) 0
theorem wts_cons (v : XV) (vs : List XV) : wts (v :: vs) = wt v + wts vs := rfl
/-- Has a packet too many bytes for a statement? -/
def PK.heavy (p : PK) : Bool := decide (20 < p.es.length) || decide (20000 < p.su.length + wts p.xs)
def hvStep (p : PK) (i : Nat) (n : Nat) (v : XV) : Nat ⊕ (Ex × St) := if n + wt v ≤ 20000 then .inl (n + wt v) else .inr (.ret, Sx 7 [.ptr 0 0, .bool true, .int .i64 ((n + wt v : Nat) : Int), .int .i64 (i : Int)] [.var false p.cells])
def hvEnd (p : PK) : Nat → Nat → List XV → Nat × Nat
  | i, n, [] => (n, i)
  | i, n, v :: vs => if n + wt v ≤ 20000 then hvEnd p (i + 1) (n + wt v) vs else (n + wt v, i)
theorem hv_fold (p : PK) : ∀ (vs : List XV) (i n : Nat), n ≤ 20000 → foldE (hvStep p) i n vs = if n + wts vs ≤ 20000 then .inl (n + wts vs) else .inr (.ret, Sx 7 [.ptr 0 0, .bool true, .int .i64 ((hvEnd p i n vs).1 : Int), .int .i64 ((hvEnd p i n vs).2 : Int)] [.var false p.cells])
  | [], i, n, h => by simp [foldE, wts, h]
  | v :: vs, i, n, h => by
    unfold foldE hvEnd
    simp only [hvStep]
    by_cases h1 : n + wt v ≤ 20000
    · simp only [h1, if_true]
      rw [hv_fold p vs (i + 1) (n + wt v) h1, wts_cons, Nat.add_assoc]
    · simp only [h1, if_false]
      rw [if_neg (by rw [wts_cons]; omega)]
def hvD1 (p : PK) (n i : Int) : Bool := decide (n = p.su.length ∧ i = 0 ∧ p.es.length ≤ 20 ∧ p.su.length + wts p.xs ≤ 20000) && p.ok
def hvD2 (p : PK) (n i : Int) : Bool := decide (n = p.su.length ∧ i = 0 ∧ p.es.length ≤ 20 ∧ p.su.length ≤ 20000 ∧ 20000 < p.su.length + wts p.xs) && p.ok
def hvG1 (p : PK) (_n : Int) : Int := ((p.su.length + wts p.xs : Nat) : Int)
def hvG2 (p : PK) (_n : Int) : Int := ((hvEnd p 0 p.su.length p.xs).1 : Int)
def hvG3 (p : PK) (_n : Int) : Int := ((hvEnd p 0 p.su.length p.xs).2 : Int)
theorem hv_runs {p : PK} {b : Bool} (hp : p.ok = true) (he : p.es.length ≤ 20) (hs : p.su.length ≤ 20000) :
    EachOK Try.prog hint PCall 0 (hint.kp 7) (loopAt Try.prog 7 122) (Sx 7 [.ptr 0 0, .bool b, .int .i64 ((p.su.length : Nat) : Int), .int .i64 ((0 : Nat) : Int)] [.var false p.cells]) (.exit 0)
      (fun n : Nat => Sx 7 [.ptr 0 0, .bool b, .int .i64 ((n : Nat) : Int), .int .i64 (p.es.length : Int)] [.var false p.cells]) (foldE (hvStep p) 0 p.su.length p.xs) := by
  have hl := p.xs_len
  refine runs_each (l := p.xs) (n := 30) (ls := fun _ _ => none) loops_none inner0 (fun i n => Sx 7 [.ptr 0 0, .bool b, .int .i64 ((n : Nat) : Int), .int .i64 (i : Int)] [.var false p.cells]) _
    (fun _ n => n ≤ 20000) (by simp) ?_ ?_ p.xs.length 0 p.su.length (by omega) hs
  · intro i n hi hn
    have hok := ok_iff.1 ((pk_es hp).2 _ (List.getElem_mem hi))
    have ht := (hv_in p b n i)
    rw [pk_nth hp hi] at ht
    have hz := pk_z hp hi
    generalize p.xs[i] = v at *
    have e0 : ∀ k : Nat, k ≤ 281474976710656 + 20000 → IntKind.i64.wrap (k : Int) = (k : Int) := fun k hk => by rw [wrap_i64]; omega
    have w : IntKind.i64.wrap ((i : Int) + 1) = ((i + 1 : Nat) : Int) := by rw [wrap_i64]; omega
    have e1 : IntKind.i64.wrap (IntKind.i64.wrap ((n : Int) + (v.l1.length : Int)) + (v.l2.length : Int)) = ((n + wt v : Nat) : Int) := by
      rw [show (n : Int) + (v.l1.length : Int) = ((n + v.l1.length : Nat) : Int) by omega, e0 _ (by omega), show ((n + v.l1.length : Nat) : Int) + (v.l2.length : Int) = ((n + wt v : Nat) : Int) by unfold wt; omega, e0 _ (by unfold wt; omega)]
    revert ht
    (simp only [x0, x1, x2, x3, x4, x5, x6, x7, x6', x7', xt, intOf_int', boolOf_b, rowL_f, nlOf_f, clOf_f, szOf_f, isOf_f, isOf_int, toX_iv, cond_true, cond_false])
    simp only [e1, w]
    rw [bif_t (by omega), bif_t (by omega), bif_t (by omega)]
    intro ht
    simp only [hvStep]
    by_cases h1 : n + wt v ≤ 20000
    · rw [bif_f (by omega)] at ht
      exact .inl ⟨_, if_pos h1, ht, h1⟩
    · rw [bif_t (by omega)] at ht
      exact .inr ⟨_, _, if_neg h1, by simp, ht⟩
  · intro n hn
    refine (hv_in p b n p.xs.length).trans ?_
    rw [bif_f (by omega), hl]
theorem hv_known : Known Try.prog hint 7 (pkP PK.ok fun p => .bool p.heavy) := by
  refine known_of fits (spec := tab []) tab_nil (ls := ltab [(7, 122, LF 7 0 (hvL hvD1 hvG1 hvD2 hvG2 hvG3))]) (ltab_cons (by kernel_rfl) (loopF_ok ?_) ltab_nil) ?_
  · intro vs bx e vs' bx' h
    obtain ⟨b, n, i, p, rfl, rfl, rfl, h0⟩ := hvL_mem h
    rcases h0 with ⟨h1, rfl, rfl⟩ | ⟨h1, rfl, rfl⟩
    · simp only [hvD1, Bool.and_eq_true, decide_eq_true_eq] at h1
      obtain ⟨⟨rfl, rfl, h1, h2⟩, h3⟩ := h1
      have := hv_runs (b := b) h3 h1 (by omega)
      rw [hv_fold _ _ _ _ (by omega), if_pos h2] at this
      exact this
    · simp only [hvD2, Bool.and_eq_true, decide_eq_true_eq] at h1
      obtain ⟨⟨rfl, rfl, h1, h2, h4⟩, h3⟩ := h1
      have := hv_runs (b := b) h3 h1 (by omega)
      rw [hv_fold _ _ _ _ (by omega), if_neg (by omega)] at this
      exact this
  intro xs T v T1 h
  obtain ⟨p, rfl, rfl, hp, rfl, rfl⟩ := pkP_mem h
  refine ⟨30, (hv_all p hvD1 hvG1 hvD2 hvG2 hvG3).trans ?_⟩
  have e1 : hvD1 p (p.su.length : Int) 0 = decide (p.es.length ≤ 20 ∧ p.su.length + wts p.xs ≤ 20000) := by simp [hvD1, hp]
  have e2 : hvD2 p (p.su.length : Int) 0 = decide (p.es.length ≤ 20 ∧ p.su.length ≤ 20000 ∧ 20000 < p.su.length + wts p.xs) := by simp [hvD2, hp]
  rw [e1, e2]
  unfold PK.heavy
  by_cases h1 : 20 < p.es.length
  · rw [decide_eq_true (show (p.es.length : Int) > 20 by omega), decide_eq_true h1]; rfl
  · rw [decide_eq_false (show ¬ (p.es.length : Int) > 20 by omega), decide_eq_false h1]
    by_cases h2 : 20000 < p.su.length
    · rw [decide_eq_true (show (p.su.length : Int) > 20000 by omega), decide_eq_true (show 20000 < p.su.length + wts p.xs by omega)]; rfl
    · rw [decide_eq_false (show ¬ (p.su.length : Int) > 20000 by omega), cond_false, cond_false]
      by_cases h3 : 20000 < p.su.length + wts p.xs
      · rw [bif_f (by omega), bif_t (by omega), decide_eq_true h3]; rfl
      · rw [bif_t (by omega), decide_eq_false h3]; rfl
end
end Go.Proofs.Ytphddjolipaejaa
