/- What the laws StampExchanges, StampShifts, StampHalf, StampMoves and StampShorts answer. It bears no condition. -/
import Derived.Test.YthnleapnhkkeoaaDoorStA
namespace Go.Proofs.YthnleapnhkkeoaaDoor
open Go Go.Im
set_option linter.unusedVariables false
set_option linter.unusedSimpArgs false

theorem near_known : Known Tryd.prog hint 22 (F1 .i64 .i64 yes1 fun x => x.tmod 1099511627776) := known1 tab_nil (n := 30) fun x _ => by kernel_rfl

/-! ### The laws' bodies -/
abbrev tabX (o o' d d' : Int → Int → Int → Int → Int) : FuncId → Option SpecF := tab [(11, aliveF), (12, F4 .u64 .i64 o), (13, F4 .u64 .i64 o'), (14, F4 .u64 .i64 d), (15, F4 .u64 .i64 d')]
theorem exchanges_tree (o o' d d' : Int → Int → Int → Int → Int) (x y z w : Int) : C (tabX o o' d d') 3 [.int .u64 x, .int .u64 y, .int .u64 z, .int .u64 w] =
  (bif (bif Bool.true then o x y z w == o' x y z w else Bool.false) == Bool.true then
     bif (bif Bool.true then o x y z w == o' x y z w else Bool.false) == Bool.true then
       Option.some
         (Go.Im.IV.bool
             (bif bif Bool.true then o x y z w == o' x y z w else Bool.false then d x y z w == d' x y z w else Bool.false),
           [])
     else
       bif (bif Bool.true then o x y z w == o' x y z w else Bool.false) == Bool.true then Option.none
       else
         bif bif Bool.true then o x y z w == o' x y z w else Bool.false then Option.some (Go.Im.IV.tup [], [])
         else Option.some (Go.Im.IV.bool Bool.false, [])
   else
     bif (bif Bool.true then o x y z w == o' x y z w else Bool.false) == Bool.true then
       bif (bif Bool.true then o x y z w == o' x y z w else Bool.false) == Bool.true then Option.none
       else
         bif bif Bool.true then o x y z w == o' x y z w else Bool.false then Option.some (Go.Im.IV.tup [], [])
         else Option.some (Go.Im.IV.bool Bool.false, [])
     else
       bif (bif Bool.true then o x y z w == o' x y z w else Bool.false) == Bool.true then Option.none
       else
         bif bif Bool.true then o x y z w == o' x y z w else Bool.false then Option.some (Go.Im.IV.tup [], [])
         else Option.some (Go.Im.IV.bool Bool.false, [])) := by kernel_rfl

abbrev tabY (o d : Int → Int → Int → Int → Int) (m : Int → Int → Int) (r : Int → Int) : FuncId → Option SpecF := tab [(11, aliveF), (12, F4 .u64 .i64 o), (14, F4 .u64 .i64 d), (20, F2 .u64 .i64 .u64 yes2 m), (22, F1 .i64 .i64 yes1 r)]
theorem shifts_tree (o d : Int → Int → Int → Int → Int) (m : Int → Int → Int) (r : Int → Int) (t a b c e : Int) : C (tabY o d m r) 7 [.int .u64 t, .int .i64 a, .int .i64 b, .int .i64 c, .int .i64 e] =
  (bif
       (bif Bool.true then
           o t (m (m t (r a)) (r e)) (m (m (m t (r a)) (r b)) (r e)) (m t (r c)) ==
             Go.IntKind.i64.wrap (o t (m t (r a)) (m (m t (r a)) (r b)) (m t (r c)) + r e)
         else Bool.false) ==
         Bool.true then
     bif
         (bif Bool.true then
             o t (m (m t (r a)) (r e)) (m (m (m t (r a)) (r b)) (r e)) (m t (r c)) ==
               Go.IntKind.i64.wrap (o t (m t (r a)) (m (m t (r a)) (r b)) (m t (r c)) + r e)
           else Bool.false) ==
           Bool.true then
       Option.some
         (Go.Im.IV.bool
             (bif
                 bif Bool.true then
                   o t (m (m t (r a)) (r e)) (m (m (m t (r a)) (r b)) (r e)) (m t (r c)) ==
                     Go.IntKind.i64.wrap (o t (m t (r a)) (m (m t (r a)) (r b)) (m t (r c)) + r e)
                 else Bool.false then
               d t (m (m t (r a)) (r e)) (m (m (m t (r a)) (r b)) (r e)) (m t (r c)) ==
                 d t (m t (r a)) (m (m t (r a)) (r b)) (m t (r c))
             else Bool.false),
           [])
     else
       bif
           (bif Bool.true then
               o t (m (m t (r a)) (r e)) (m (m (m t (r a)) (r b)) (r e)) (m t (r c)) ==
                 Go.IntKind.i64.wrap (o t (m t (r a)) (m (m t (r a)) (r b)) (m t (r c)) + r e)
             else Bool.false) ==
             Bool.true then
         Option.none
       else
         bif
             bif Bool.true then
               o t (m (m t (r a)) (r e)) (m (m (m t (r a)) (r b)) (r e)) (m t (r c)) ==
                 Go.IntKind.i64.wrap (o t (m t (r a)) (m (m t (r a)) (r b)) (m t (r c)) + r e)
             else Bool.false then
           Option.some (Go.Im.IV.tup [], [])
         else Option.some (Go.Im.IV.bool Bool.false, [])
   else
     bif
         (bif Bool.true then
             o t (m (m t (r a)) (r e)) (m (m (m t (r a)) (r b)) (r e)) (m t (r c)) ==
               Go.IntKind.i64.wrap (o t (m t (r a)) (m (m t (r a)) (r b)) (m t (r c)) + r e)
           else Bool.false) ==
           Bool.true then
       bif
           (bif Bool.true then
               o t (m (m t (r a)) (r e)) (m (m (m t (r a)) (r b)) (r e)) (m t (r c)) ==
                 Go.IntKind.i64.wrap (o t (m t (r a)) (m (m t (r a)) (r b)) (m t (r c)) + r e)
             else Bool.false) ==
             Bool.true then
         Option.none
       else
         bif
             bif Bool.true then
               o t (m (m t (r a)) (r e)) (m (m (m t (r a)) (r b)) (r e)) (m t (r c)) ==
                 Go.IntKind.i64.wrap (o t (m t (r a)) (m (m t (r a)) (r b)) (m t (r c)) + r e)
             else Bool.false then
           Option.some (Go.Im.IV.tup [], [])
         else Option.some (Go.Im.IV.bool Bool.false, [])
     else
       bif
           (bif Bool.true then
               o t (m (m t (r a)) (r e)) (m (m (m t (r a)) (r b)) (r e)) (m t (r c)) ==
                 Go.IntKind.i64.wrap (o t (m t (r a)) (m (m t (r a)) (r b)) (m t (r c)) + r e)
             else Bool.false) ==
             Bool.true then
         Option.none
       else
         bif
             bif Bool.true then
               o t (m (m t (r a)) (r e)) (m (m (m t (r a)) (r b)) (r e)) (m t (r c)) ==
                 Go.IntKind.i64.wrap (o t (m t (r a)) (m (m t (r a)) (r b)) (m t (r c)) + r e)
             else Bool.false then
           Option.some (Go.Im.IV.tup [], [])
         else Option.some (Go.Im.IV.bool Bool.false, [])) := by kernel_rfl
theorem half_tree (o d : Int → Int → Int → Int → Int) (m : Int → Int → Int) (r : Int → Int) (t a b c e : Int) : C (tabY o d m r) 8 [.int .u64 t, .int .i64 a, .int .i64 b, .int .i64 c, .int .i64 e] =
  (Option.some
     (Go.Im.IV.bool
         (bif
             bif
                 bif Bool.true then
                   d t (m (m t (Go.Im.ibits Go.BinOp.and Go.IntKind.i64 (r b) 1099511627775)) (r a))
                       (m (m (m t (Go.Im.ibits Go.BinOp.and Go.IntKind.i64 (r b) 1099511627775)) (r a)) (r e))
                       (m
                         (m (m (m (m t (Go.Im.ibits Go.BinOp.and Go.IntKind.i64 (r b) 1099511627775)) (r a)) (r e))
                           (Go.IntKind.i64.wrap (0 - r a)))
                         (Go.Im.ibits Go.BinOp.and Go.IntKind.i64 (r c) 1099511627775)) ==
                     Go.IntKind.i64.wrap
                       (Go.Im.ibits Go.BinOp.and Go.IntKind.i64 (r b) 1099511627775 +
                         Go.Im.ibits Go.BinOp.and Go.IntKind.i64 (r c) 1099511627775)
                 else Bool.false then
               Decidable.decide
                 (Go.IntKind.i64.wrap
                     (2 *
                       Go.IntKind.i64.wrap
                         (o t (m (m t (Go.Im.ibits Go.BinOp.and Go.IntKind.i64 (r b) 1099511627775)) (r a))
                             (m (m (m t (Go.Im.ibits Go.BinOp.and Go.IntKind.i64 (r b) 1099511627775)) (r a)) (r e))
                             (m
                               (m (m (m (m t (Go.Im.ibits Go.BinOp.and Go.IntKind.i64 (r b) 1099511627775)) (r a)) (r e))
                                 (Go.IntKind.i64.wrap (0 - r a)))
                               (Go.Im.ibits Go.BinOp.and Go.IntKind.i64 (r c) 1099511627775)) -
                           r a)) ≤
                   Go.IntKind.i64.wrap
                     (Go.Im.ibits Go.BinOp.and Go.IntKind.i64 (r b) 1099511627775 +
                       Go.Im.ibits Go.BinOp.and Go.IntKind.i64 (r c) 1099511627775))
             else Bool.false then
           Decidable.decide
             (Go.IntKind.i64.wrap
                 (-2 *
                   Go.IntKind.i64.wrap
                     (o t (m (m t (Go.Im.ibits Go.BinOp.and Go.IntKind.i64 (r b) 1099511627775)) (r a))
                         (m (m (m t (Go.Im.ibits Go.BinOp.and Go.IntKind.i64 (r b) 1099511627775)) (r a)) (r e))
                         (m
                           (m (m (m (m t (Go.Im.ibits Go.BinOp.and Go.IntKind.i64 (r b) 1099511627775)) (r a)) (r e))
                             (Go.IntKind.i64.wrap (0 - r a)))
                           (Go.Im.ibits Go.BinOp.and Go.IntKind.i64 (r c) 1099511627775)) -
                       r a)) ≤
               Go.IntKind.i64.wrap
                 (Go.IntKind.i64.wrap
                     (Go.Im.ibits Go.BinOp.and Go.IntKind.i64 (r b) 1099511627775 +
                       Go.Im.ibits Go.BinOp.and Go.IntKind.i64 (r c) 1099511627775) +
                   1))
         else Bool.false),
       [])) := by kernel_rfl

/-! ### The runs -/
theorem near_lo (x : Int) : -1099511627776 < x.tmod 1099511627776 := by rw [tmod_pos _ (by decide)]; split <;> omega
theorem near_hi (x : Int) : x.tmod 1099511627776 < 1099511627776 := by rw [tmod_pos _ (by decide)]; split <;> omega
/-- The lowest 40 bits. -/
theorem low40 (x : Int) : ibits .and .i64 x 1099511627775 = x % 1099511627776 := by
  obtain ⟨A, hA⟩ : ∃ A : Nat, (A : Int) = x % 18446744073709551616 := ⟨(x % 18446744073709551616).toNat, by omega⟩
  have eA : (BitVec.ofInt 64 x).toNat = A := by
    rw [BitVec.toNat_ofInt]
    have : x % ((2 ^ 64 : Nat) : Int) = A := by rw [hA]; rfl
    rw [this]; rfl
  have h1 : ibits .and .i64 x 1099511627775 = IntKind.i64.wrap ((A % 2 ^ 40 : Nat) : Int) := by
    show IntKind.i64.wrap (((BitVec.ofInt 64 x) &&& (BitVec.ofInt 64 1099511627775)).toNat : Int) = _
    have e2 : (BitVec.ofInt 64 1099511627775).toNat = 2 ^ 40 - 1 := by decide
    rw [BitVec.toNat_and, eA, e2, Nat.and_two_pow_sub_one_eq_mod]
  rw [h1, wrap_i64]
  omega

theorem args4 {P : Program} {ps : Array TypeId} {t0 t1 t2 t3 : TypeId} (hp : ps = #[t0, t1, t2, t3]) {xs : List IV} (hl : xs.length = ps.size) (h : ∀ (i : Nat) t, ps[i]? = some t → ∃ x, xs[i]? = some x ∧ ArgT P t x) :
    ∃ x0 x1 x2 x3, xs = [x0, x1, x2, x3] ∧ ArgT P t0 x0 ∧ ArgT P t1 x1 ∧ ArgT P t2 x2 ∧ ArgT P t3 x3 := by
  subst hp
  obtain ⟨x0, h0, k0⟩ := h 0 t0 rfl
  obtain ⟨x1, h1, k1⟩ := h 1 t1 rfl
  obtain ⟨x2, h2, k2⟩ := h 2 t2 rfl
  obtain ⟨x3, h3, k3⟩ := h 3 t3 rfl
  match xs, hl, h0, h1, h2, h3 with
  | [y0, y1, y2, y3], _, h0, h1, h2, h3 =>
    simp at h0 h1 h2 h3
    subst h0 h1 h2 h3
    exact ⟨_, _, _, _, rfl, k0, k1, k2, k3⟩
theorem args5 {P : Program} {ps : Array TypeId} {t0 t1 t2 t3 t4 : TypeId} (hp : ps = #[t0, t1, t2, t3, t4]) {xs : List IV} (hl : xs.length = ps.size) (h : ∀ (i : Nat) t, ps[i]? = some t → ∃ x, xs[i]? = some x ∧ ArgT P t x) :
    ∃ x0 x1 x2 x3 x4, xs = [x0, x1, x2, x3, x4] ∧ ArgT P t0 x0 ∧ ArgT P t1 x1 ∧ ArgT P t2 x2 ∧ ArgT P t3 x3 ∧ ArgT P t4 x4 := by
  subst hp
  obtain ⟨x0, h0, k0⟩ := h 0 t0 rfl
  obtain ⟨x1, h1, k1⟩ := h 1 t1 rfl
  obtain ⟨x2, h2, k2⟩ := h 2 t2 rfl
  obtain ⟨x3, h3, k3⟩ := h 3 t3 rfl
  obtain ⟨x4, h4, k4⟩ := h 4 t4 rfl
  match xs, hl, h0, h1, h2, h3, h4 with
  | [y0, y1, y2, y3, y4], _, h0, h1, h2, h3, h4 =>
    simp at h0 h1 h2 h3 h4
    subst h0 h1 h2 h3 h4
    exact ⟨_, _, _, _, _, rfl, k0, k1, k2, k3, k4⟩

abbrev offsetG (t1 t2 t3 t4 : Int) : Int := (s64 (t2 - t1) + s64 (t3 - t4)) / 2
abbrev delayG (t1 t2 t3 t4 : Int) : Int := clamp (s64 (t4 - t1) - s64 (t3 - t2))
abbrev moveG (t d : Int) : Int := IntKind.u64.wrap (t + d)
abbrev nearG (x : Int) : Int := x.tmod 1099511627776
theorem tabX_ok : ∀ f F, tabX offsetG offsetG delayG delayG f = some F → Known Tryd.prog hint f F :=
  tab_cons alive_known (tab_cons offset_known (tab_cons roffset_known (tab_cons delay_known (tab_cons rdelay_known tab_nil))))
theorem tabY_ok : ∀ f F, tabY offsetG delayG moveG nearG f = some F → Known Tryd.prog hint f F :=
  tab_cons alive_known (tab_cons offset_known (tab_cons delay_known (tab_cons move_known (tab_cons near_known tab_nil))))

theorem stampExchanges_run (xs : List IV) (hl : xs.length = Tryd.f3.params.size) (h : ∀ (i : Nat) t, Tryd.f3.params[i]? = some t → ∃ x, xs[i]? = some x ∧ ArgT Tryd.prog t x) :
    ∃ k, acall Tryd.prog hint (ovrOf (tabX offsetG offsetG delayG delayG)) k 3 xs [] = some (.bool true, []) := by
  obtain ⟨x0, x1, x2, x3, rfl, h0, h1, h2, h3⟩ := args4 Tryd.params3 hl h
  obtain ⟨a, rfl, a1, a2⟩ := arg_int Tryd.underlying22 h0
  obtain ⟨b, rfl, b1, b2⟩ := arg_int Tryd.underlying22 h1
  obtain ⟨c, rfl, c1, c2⟩ := arg_int Tryd.underlying22 h2
  obtain ⟨d, rfl, d1, d2⟩ := arg_int Tryd.underlying22 h3
  exact law_run (n := 30) loops_none ((exchanges_tree _ _ _ _ a b c d).trans (by simp))

theorem stampShifts_run (xs : List IV) (hl : xs.length = Tryd.f7.params.size) (h : ∀ (i : Nat) t, Tryd.f7.params[i]? = some t → ∃ x, xs[i]? = some x ∧ ArgT Tryd.prog t x) :
    ∃ k, acall Tryd.prog hint (ovrOf (tabY offsetG delayG moveG nearG)) k 7 xs [] = some (.bool true, []) := by
  obtain ⟨x0, x1, x2, x3, x4, rfl, h0, h1, h2, h3, h4⟩ := args5 Tryd.params7 hl h
  obtain ⟨t, rfl, t1, t2⟩ := arg_int Tryd.underlying22 h0
  obtain ⟨a, rfl, _, _⟩ := arg_int Tryd.underlying2 h1
  obtain ⟨b, rfl, _, _⟩ := arg_int Tryd.underlying2 h2
  obtain ⟨c, rfl, _, _⟩ := arg_int Tryd.underlying2 h3
  obtain ⟨e, rfl, _, _⟩ := arg_int Tryd.underlying2 h4
  simp only [range_u64] at t1 t2
  refine law_run (n := 30) loops_none ((shifts_tree _ _ _ _ t a b c e).trans ?_)
  have a1 := near_lo a
  have a2 := near_hi a
  have b1 := near_lo b
  have b2 := near_hi b
  have c1 := near_lo c
  have c2 := near_hi c
  have e1 := near_lo e
  have e2 := near_hi e
  simp only [nearG]
  generalize a.tmod 1099511627776 = A at *
  generalize b.tmod 1099511627776 = B at *
  generalize c.tmod 1099511627776 = D at *
  generalize e.tmod 1099511627776 = E at *
  have p1 : s64 (moveG (moveG t A) E - t) = A + E := by simp only [moveG, s64_eq, wrap_u64]; omega
  have p2 : s64 (moveG (moveG (moveG t A) B) E - moveG t D) = A + B + E - D := by simp only [moveG, s64_eq, wrap_u64]; omega
  have p3 : s64 (moveG t A - t) = A := by simp only [moveG, s64_eq, wrap_u64]; omega
  have p4 : s64 (moveG (moveG t A) B - moveG t D) = A + B - D := by simp only [moveG, s64_eq, wrap_u64]; omega
  have p5 : s64 (moveG t D - t) = D := by simp only [moveG, s64_eq, wrap_u64]; omega
  have p6 : s64 (moveG (moveG (moveG t A) B) E - moveG (moveG t A) E) = B := by simp only [moveG, s64_eq, wrap_u64]; omega
  have p7 : s64 (moveG (moveG t A) B - moveG t A) = B := by simp only [moveG, s64_eq, wrap_u64]; omega
  have q1 : offsetG t (moveG (moveG t A) E) (moveG (moveG (moveG t A) B) E) (moveG t D) = IntKind.i64.wrap (offsetG t (moveG t A) (moveG (moveG t A) B) (moveG t D) + E) := by
    simp only [offsetG, p1, p2, p3, p4, wrap_i64]
    omega
  have q2 : delayG t (moveG (moveG t A) E) (moveG (moveG (moveG t A) B) E) (moveG t D) = delayG t (moveG t A) (moveG (moveG t A) B) (moveG t D) := by
    simp only [delayG, p5, p6, p7]
  simp only [q1, q2, beq_self_eq_true, cond_true]

theorem stampHalf_run (xs : List IV) (hl : xs.length = Tryd.f8.params.size) (h : ∀ (i : Nat) t, Tryd.f8.params[i]? = some t → ∃ x, xs[i]? = some x ∧ ArgT Tryd.prog t x) :
    ∃ k, acall Tryd.prog hint (ovrOf (tabY offsetG delayG moveG nearG)) k 8 xs [] = some (.bool true, []) := by
  obtain ⟨x0, x1, x2, x3, x4, rfl, h0, h1, h2, h3, h4⟩ := args5 Tryd.params8 hl h
  obtain ⟨t, rfl, t1, t2⟩ := arg_int Tryd.underlying22 h0
  obtain ⟨a, rfl, _, _⟩ := arg_int Tryd.underlying2 h1
  obtain ⟨b, rfl, _, _⟩ := arg_int Tryd.underlying2 h2
  obtain ⟨c, rfl, _, _⟩ := arg_int Tryd.underlying2 h3
  obtain ⟨e, rfl, _, _⟩ := arg_int Tryd.underlying2 h4
  simp only [range_u64] at t1 t2
  refine law_run (n := 30) loops_none ((half_tree _ _ _ _ t a b c e).trans ?_)
  have a1 := near_lo a
  have a2 := near_hi a
  have e1 := near_lo e
  have e2 := near_hi e
  simp only [nearG, low40]
  generalize a.tmod 1099511627776 = O at *
  generalize e.tmod 1099511627776 = W at *
  generalize b.tmod 1099511627776 = b' at *
  generalize c.tmod 1099511627776 = c' at *
  obtain ⟨X, hX, X1, X2⟩ : ∃ X, X = b' % 1099511627776 ∧ 0 ≤ X ∧ X < 1099511627776 := ⟨_, rfl, by omega, by omega⟩
  obtain ⟨Y, hY, Y1, Y2⟩ : ∃ Y, Y = c' % 1099511627776 ∧ 0 ≤ Y ∧ Y < 1099511627776 := ⟨_, rfl, by omega, by omega⟩
  rw [← hX, ← hY]
  have hO : IntKind.i64.wrap (0 - O) = -O := by rw [wrap_i64]; omega
  have hS : IntKind.i64.wrap (X + Y) = X + Y := by rw [wrap_i64]; omega
  rw [hO, hS]
  have p1 : s64 (moveG (moveG t X) O - t) = X + O := by simp only [moveG, s64_eq, wrap_u64]; omega
  have p2 : s64 (moveG (moveG (moveG t X) O) W - moveG (moveG (moveG (moveG (moveG t X) O) W) (-O)) Y) = O - Y := by simp only [moveG, s64_eq, wrap_u64]; omega
  have p3 : s64 (moveG (moveG (moveG (moveG (moveG t X) O) W) (-O)) Y - t) = X + W + Y := by simp only [moveG, s64_eq, wrap_u64]; omega
  have p4 : s64 (moveG (moveG (moveG t X) O) W - moveG (moveG t X) O) = W := by simp only [moveG, s64_eq, wrap_u64]; omega
  have q1 : offsetG t (moveG (moveG t X) O) (moveG (moveG (moveG t X) O) W) (moveG (moveG (moveG (moveG (moveG t X) O) W) (-O)) Y) = O + (X - Y) / 2 := by
    simp only [offsetG, p1, p2]; omega
  have q2 : delayG t (moveG (moveG t X) O) (moveG (moveG (moveG t X) O) W) (moveG (moveG (moveG (moveG (moveG t X) O) W) (-O)) Y) = X + Y := by
    simp only [delayG, p3, p4, clamp]
    rw [if_neg (by omega), if_neg (by omega)]; omega
  simp only [q1, q2, beq_self_eq_true, cond_true]
  have r1 : decide (IntKind.i64.wrap (2 * IntKind.i64.wrap (O + (X - Y) / 2 - O)) ≤ X + Y) = true := by
    rw [decide_eq_true_eq]; simp only [wrap_i64]; omega
  have r2 : decide (IntKind.i64.wrap (-2 * IntKind.i64.wrap (O + (X - Y) / 2 - O)) ≤ IntKind.i64.wrap (X + Y + 1)) = true := by
    rw [decide_eq_true_eq]; simp only [wrap_i64]; omega
  simp only [r1, r2, cond_true]
end Go.Proofs.YthnleapnhkkeoaaDoor
