/- What the law StampThere answers. It bears no condition. -/
import Derived.Test.YthnleapnhkkeoaaDoorBase
namespace Go.Proofs.YthnleapnhkkeoaaDoor
open Go Go.Im
set_option linter.unusedVariables false

/-- The fixed calls answer true. -/
def aliveF : SpecF := fun xs T => match xs, T with
  | [], [] => some (true, .bool true, [])
  | _, _ => none
theorem alive_known : Known Tryd.prog hint 11 aliveF := by
  refine known_of fits (spec := tab []) tab_nil loops_none ?_
  intro xs T v T1 h
  unfold aliveF at h
  split at h
  · cases h
    exact ⟨60, by kernel_rfl⟩
  · cases h
def known1 : FuncId → Option SpecF := tab [(11, aliveF)]
theorem known1_ok : ∀ f F, known1 f = some F → Known Tryd.prog hint f F := tab_cons alive_known tab_nil
noncomputable abbrev run (f : FuncId) (xs : List IV) : Option (IV × List Blk) := callK Tryd.prog hint known1 (fun _ _ => none) 30 f xs [] (fun v T => some (v, T))

theorem args3 {P : Program} {ps : Array TypeId} {t0 t1 t2 : TypeId} (hp : ps = #[t0, t1, t2]) {xs : List IV} (hl : xs.length = ps.size) (h : ∀ (i : Nat) t, ps[i]? = some t → ∃ x, xs[i]? = some x ∧ ArgT P t x) :
    ∃ x0 x1 x2, xs = [x0, x1, x2] ∧ ArgT P t0 x0 ∧ ArgT P t1 x1 ∧ ArgT P t2 x2 := by
  subst hp
  obtain ⟨x0, h0, k0⟩ := h 0 t0 rfl
  obtain ⟨x1, h1, k1⟩ := h 1 t1 rfl
  obtain ⟨x2, h2, k2⟩ := h 2 t2 rfl
  match xs, hl, h0, h1, h2 with
  | [y0, y1, y2], _, h0, h1, h2 =>
    simp at h0 h1 h2
    subst h0 h1 h2
    exact ⟨_, _, _, rfl, k0, k1, k2⟩

theorem there_eq (a b d : Int) : run 6 [.int .u64 a, .int .u64 b, .int .i64 d] =
  bif (IntKind.u64.wrap (b + IntKind.u64.wrap (IntKind.i64.wrap (IntKind.u64.wrap (a - b)))) != a) == false then
  bif (IntKind.u64.wrap (b + IntKind.u64.wrap (IntKind.i64.wrap (IntKind.u64.wrap (a - b)))) != a) == false then
    bif
        bif IntKind.u64.wrap (b + IntKind.u64.wrap (IntKind.i64.wrap (IntKind.u64.wrap (a - b)))) != a then true
        else IntKind.i64.wrap (IntKind.u64.wrap (IntKind.u64.wrap (a + IntKind.u64.wrap d) - a)) != d then
      some (IV.bool false, [])
    else
      bif true == true && (IntKind.i64.wrap (IntKind.u64.wrap (a - b)) == -9223372036854775808) == false then
        some
          (IV.bool
              (bif true then
                bif IntKind.i64.wrap (IntKind.u64.wrap (a - b)) == -9223372036854775808 then true
                else
                  IntKind.i64.wrap (IntKind.u64.wrap (b - a)) ==
                    IntKind.i64.wrap (0 - IntKind.i64.wrap (IntKind.u64.wrap (a - b)))
              else false),
            [])
      else
        bif true == true && (IntKind.i64.wrap (IntKind.u64.wrap (a - b)) == -9223372036854775808) == false then none
        else
          bif IntKind.i64.wrap (IntKind.u64.wrap (a - b)) == -9223372036854775808 then some (IV.bool true, [])
          else some (IV.tup [], [])
  else
    bif (IntKind.u64.wrap (b + IntKind.u64.wrap (IntKind.i64.wrap (IntKind.u64.wrap (a - b)))) != a) == false then none
    else
      bif IntKind.u64.wrap (b + IntKind.u64.wrap (IntKind.i64.wrap (IntKind.u64.wrap (a - b)))) != a then
        some (IV.bool false, [])
      else none
else
  bif (IntKind.u64.wrap (b + IntKind.u64.wrap (IntKind.i64.wrap (IntKind.u64.wrap (a - b)))) != a) == false then none
  else
    bif (IntKind.u64.wrap (b + IntKind.u64.wrap (IntKind.i64.wrap (IntKind.u64.wrap (a - b)))) != a) == false then none
    else
      bif IntKind.u64.wrap (b + IntKind.u64.wrap (IntKind.i64.wrap (IntKind.u64.wrap (a - b)))) != a then
        some (IV.bool false, [])
      else none := by kernel_rfl

theorem stampThere_run (xs : List IV) (hl : xs.length = Tryd.f6.params.size) (h : ∀ (i : Nat) t, Tryd.f6.params[i]? = some t → ∃ x, xs[i]? = some x ∧ ArgT Tryd.prog t x) :
    ∃ k, acall Tryd.prog hint (ovrOf known1) k 6 xs [] = some (.bool true, []) := by
  obtain ⟨x0, x1, x2, rfl, h0, h1, h2⟩ := args3 Tryd.params6 hl h
  obtain ⟨a, rfl, a1, a2⟩ := arg_int Tryd.underlying22 h0
  obtain ⟨b, rfl, b1, b2⟩ := arg_int Tryd.underlying22 h1
  obtain ⟨d, rfl, d1, d2⟩ := arg_int Tryd.underlying2 h2
  simp only [range_u64, range_i64] at a1 a2 b1 b2 d1 d2
  refine law_run (n := 30) loops_none ((there_eq a b d).trans ?_)
  have e1 : IntKind.u64.wrap (b + IntKind.u64.wrap (IntKind.i64.wrap (IntKind.u64.wrap (a - b)))) = a := by
    simp only [wrap_u64, wrap_i64]; omega
  have e2 : IntKind.i64.wrap (IntKind.u64.wrap (IntKind.u64.wrap (a + IntKind.u64.wrap d) - a)) = d := by
    simp only [wrap_u64, wrap_i64]; omega
  simp only [e1, e2, bne_self_eq_false, beq_self_eq_true, cond_true, cond_false, Bool.true_and]
  by_cases hx : IntKind.i64.wrap (IntKind.u64.wrap (a - b)) = -9223372036854775808
  · simp [hx]
  · have e3 : IntKind.i64.wrap (IntKind.u64.wrap (b - a)) = IntKind.i64.wrap (0 - IntKind.i64.wrap (IntKind.u64.wrap (a - b))) := by
      simp only [wrap_u64, wrap_i64] at hx ⊢; omega
    have e4 : (IntKind.i64.wrap (IntKind.u64.wrap (a - b)) == -9223372036854775808) = false := by simpa using hx
    simp [e3, e4]
end Go.Proofs.YthnleapnhkkeoaaDoor
