/- What the reference's Fit answers, and the law ChooseMiddle. It bears no condition. -/
import Derived.Test.YtfcedalbamafiaaChB
namespace Go.Proofs.Ytfcedalbamafiaa
open Go Go.Im
set_option linter.unusedVariables false
set_option linter.unusedSimpArgs false
def pairBad (zs ws : List Int) (i : Nat) : Bool := decide (zs.getD i 0 < -1099511627776) || decide (zs.getD i 0 > 1099511627776) || decide (ws.getD i 0 < 0) || decide (ws.getD i 0 > 1099511627776)
def rfitT (z : Nat) (xs : List IV) (z' : Nat) (ys : List IV) : Bool := okRow z xs && okRow z' ys && Nat.beq xs.length ys.length && decide (xs.length ≤ 64)
def rfitG : LiveF := fun vs bx => match vs, bx with
  | [.fsl nl cl z xs, .fsl nl' cl' z' ys, .bool b, .int .i64 i], [] =>
    [(rfitT z xs z' ys && !b && decide (i = 0) && anyOf (pairBad (toInts xs) (toInts ys)) xs.length, .ret, [.fsl nl cl z xs, .fsl nl' cl' z' ys, .bool false, .int .i64 (firstOf (pairBad (toInts xs) (toInts ys)) xs.length : Nat)], []),
     (rfitT z xs z' ys && !b && decide (i = 0) && !(anyOf (pairBad (toInts xs) (toInts ys)) xs.length), .exit 0, [.fsl nl cl z xs, .fsl nl' cl' z' ys, .bool false, .int .i64 (xs.length : Nat)], [])]
  | _, _ => []
noncomputable abbrev rfitLs : FuncId → Nat → Option LoopF := ltab [(14, 58, loopF Try.prog hint 14 0 rfitG)]
theorem rfit_call (nl : Option Bool) (cl : Bool) (z : Nat) (xs : List IV) (nl' : Option Bool) (cl' : Bool) (z' : Nat) (ys : List IV) : callK Try.prog hint (tab []) rfitLs 30 14 [.fsl nl cl z xs, .fsl nl' cl' z' ys] [] (fun v T => some (v, T)) =
  (bif bif (↑xs.length : Int) != (↑ys.length : Int) then true else decide ((↑xs.length : Int) > (64 : Int)) then
     some (IV.bool false, [])
   else
     bif
         rfitT z xs z' ys && !false && decide ((0 : Int) = (0 : Int)) &&
           anyOf (pairBad (toInts xs) (toInts ys)) xs.length then
       some (IV.bool false, [])
     else
       bif
           rfitT z xs z' ys && !false && decide ((0 : Int) = (0 : Int)) &&
             !anyOf (pairBad (toInts xs) (toInts ys)) xs.length then
         some (IV.bool true, [])
       else none) := by kernel_rfl
def aliveF : SpecF := fun xs T => match xs, T with
  | [], [] => [(true, .bool true, [])]
  | _, _ => []
abbrev tabM (t : Nat → List IV → Nat → List IV → Bool) (cv ce : List IV → List IV → Int) (fb : List IV → List IV → Bool) : FuncId → Option SpecF := tab [(10, aliveF), (13, fun xs T => match xs, T with
  | [.fsl nl cl z xs, .fsl nl' cl' z' ys], [] => [(t z xs z' ys, .tup [.int .i64 (cv xs ys), .int .i64 (ce xs ys)], [])]
  | _, _ => []), (14, fun xs T => match xs, T with
  | [.fsl nl cl z xs, .fsl nl' cl' z' ys], [] => [(t z xs z' ys, .bool (fb xs ys), [])]
  | _, _ => [])]

/-! ### The reference's Fit -/
theorem rfit_tree (nl : Option Bool) (cl : Bool) (z : Nat) (xs : List IV) (nl' : Option Bool) (cl' : Bool) (z' : Nat) (ys : List IV) (i : Int) : Rd (tab []) 14 58 (Sx 14 [.fsl nl cl z xs, .fsl nl' cl' z' ys, .bool false, .int .i64 i] []) =
  (bif decide (i < (↑xs.length : Int)) then
     bif decide (z = (1 : Nat) ∧ (0 : Int) ≤ i ∧ i < (↑xs.length : Int)) then
       bif isOf (LT.i IntKind.i64) (nthD (nthD xs i.toNat).cells (0 : Nat)) then
         bif decide (intOf (nthD (nthD xs i.toNat).cells (0 : Nat)) < (-1099511627776 : Int)) == false then
           bif decide (z = (1 : Nat) ∧ (0 : Int) ≤ i ∧ i < (↑xs.length : Int)) then
             bif isOf (LT.i IntKind.i64) (nthD (nthD xs i.toNat).cells (0 : Nat)) then
               bif
                   (bif false then true
                     else decide (intOf (nthD (nthD xs i.toNat).cells (0 : Nat)) > (1099511627776 : Int))) ==
                     false then
                 bif decide (z' = (1 : Nat) ∧ (0 : Int) ≤ i ∧ i < (↑ys.length : Int)) then
                   bif isOf (LT.i IntKind.i64) (nthD (nthD ys i.toNat).cells (0 : Nat)) then
                     bif
                         (bif false then true else decide (intOf (nthD (nthD ys i.toNat).cells (0 : Nat)) < (0 : Int))) ==
                           false then
                       bif decide (z' = (1 : Nat) ∧ (0 : Int) ≤ i ∧ i < (↑ys.length : Int)) then
                         bif isOf (LT.i IntKind.i64) (nthD (nthD ys i.toNat).cells (0 : Nat)) then
                           bif
                               bif false then true
                               else decide (intOf (nthD (nthD ys i.toNat).cells (0 : Nat)) > (1099511627776 : Int)) then
                             some
                               (Ex.ret,
                                 Sx (14 : Nat)
                                   [IV.fsl nl cl z xs, IV.fsl nl' cl' z' ys, IV.bool false, IV.int IntKind.i64 i] [])
                           else
                             some
                               (Ex.normal,
                                 Sx (14 : Nat)
                                   [IV.fsl nl cl z xs, IV.fsl nl' cl' z' ys, IV.bool false,
                                     IV.int IntKind.i64 (IntKind.i64.wrap (i + (1 : Int)))]
                                   [])
                         else none
                       else none
                     else
                       some
                         (Ex.ret,
                           Sx (14 : Nat) [IV.fsl nl cl z xs, IV.fsl nl' cl' z' ys, IV.bool false, IV.int IntKind.i64 i] [])
                   else none
                 else none
               else
                 some
                   (Ex.ret,
                     Sx (14 : Nat) [IV.fsl nl cl z xs, IV.fsl nl' cl' z' ys, IV.bool false, IV.int IntKind.i64 i] [])
             else none
           else none
         else
           some (Ex.ret, Sx (14 : Nat) [IV.fsl nl cl z xs, IV.fsl nl' cl' z' ys, IV.bool false, IV.int IntKind.i64 i] [])
       else none
     else none
   else
     some
       (Ex.exit (nat_lit 0),
         Sx (14 : Nat) [IV.fsl nl cl z xs, IV.fsl nl' cl' z' ys, IV.bool false, IV.int IntKind.i64 i] [])) := by kernel_rfl
theorem rfit_loop : LoopOK Try.prog hint (acall Try.prog hint (ovrOf (tab []))) (itOf Try.prog hint (acall Try.prog hint (ovrOf (tab [])))) (hint.kp 14) (itemAt Try.prog 14 58) (loopF Try.prog hint 14 0 rfitG) := by
  refine loopF_ok fun vs bx e vs' bx' h => ?_
  unfold rfitG at h
  split at h
  · rename_i nl cl z xs nl' cl' z' ys b i
    have key : ∀ {u : Bool}, (rfitT z xs z' ys && !b && decide (i = 0) && u) = true → Runs Try.prog hint (acall Try.prog hint (ovrOf (tab []))) 0 (hint.kp 14) (loopAt Try.prog 14 58) (stAt Try.prog hint 14 [.fsl nl cl z xs, .fsl nl' cl' z' ys, .bool b, .int .i64 i] [])
        (bif anyOf (pairBad (toInts xs) (toInts ys)) xs.length then .ret else .exit 0)
        (bif anyOf (pairBad (toInts xs) (toInts ys)) xs.length then stAt Try.prog hint 14 [.fsl nl cl z xs, .fsl nl' cl' z' ys, .bool false, .int .i64 (firstOf (pairBad (toInts xs) (toInts ys)) xs.length : Nat)] [] else stAt Try.prog hint 14 [.fsl nl cl z xs, .fsl nl' cl' z' ys, .bool false, .int .i64 (xs.length : Nat)] []) := by
      intro u ht
      simp only [rfitT, Bool.and_eq_true, decide_eq_true_eq, Bool.not_eq_true'] at ht
      obtain ⟨⟨⟨⟨⟨⟨h1, h2⟩, hl⟩, hf⟩, rfl⟩, rfl⟩, _⟩ := ht
      have hl := Nat.eq_of_beq_eq_true hl
      obtain ⟨rfl, hx, _⟩ := okRow_iff h1
      obtain ⟨rfl, hy, _⟩ := okRow_iff h2
      have hin := inner_of (P := Try.prog) (H := hint) (call := acall Try.prog hint (ovrOf (tab []))) (f := 14) (q := 58) (ls := fun _ _ => none) (by kernel_rfl)
      have hn : (toInts xs).length = xs.length := by simp [toInts]
      have hn2 : (toInts ys).length = ys.length := by simp [toInts]
      generalize hzs : toInts xs = zs at *
      generalize hws : toInts ys = ws at *
      subst hx hy
      simp only [List.length_map] at hl hf hn hn2 ⊢
      have round : ∀ i : Nat, i < zs.length → Rd (tab []) 14 58 (Sx 14 [.fsl nl cl 1 (zs.map (IV.int .i64)), .fsl nl' cl' 1 (ws.map (IV.int .i64)), .bool false, .int .i64 i] []) =
          bif pairBad zs ws i then some (.ret, Sx 14 [.fsl nl cl 1 (zs.map (IV.int .i64)), .fsl nl' cl' 1 (ws.map (IV.int .i64)), .bool false, .int .i64 i] [])
          else some (.normal, Sx 14 [.fsl nl cl 1 (zs.map (IV.int .i64)), .fsl nl' cl' 1 (ws.map (IV.int .i64)), .bool false, .int .i64 ((i + 1 : Nat) : Int)] []) := by
        intro i hi
        have hw : IntKind.i64.wrap ((i : Int) + 1) = ((i + 1 : Nat) : Int) := by rw [wrap_i64]; omega
        have d1 : decide ((i : Int) < ((zs.map (IV.int .i64)).length : Int)) = true := by simp; omega
        have d2 : decide (1 = 1 ∧ (0 : Int) ≤ i ∧ (i : Int) < ((zs.map (IV.int .i64)).length : Int)) = true := by simp; omega
        have d3 : decide (1 = 1 ∧ (0 : Int) ≤ i ∧ (i : Int) < ((ws.map (IV.int .i64)).length : Int)) = true := by simp; omega
        rw [rfit_tree, d1, d2, d3, Int.toNat_natCast, nthD_map hi, nthD_map (show i < ws.length by omega)]
        simp only [IV.cells, nthD_one, isOf_int, intOf_int, cond_true, hw, pairBad]
        by_cases p1 : zs.getD i 0 < -1099511627776 <;> by_cases p2 : zs.getD i 0 > 1099511627776 <;> by_cases p3 : ws.getD i 0 < 0 <;> by_cases p4 : ws.getD i 0 > 1099511627776 <;>
          simp only [p1, p2, p3, p4, decide_true, decide_false, Bool.or_true, Bool.true_or, Bool.or_self, cond_true, cond_false, beq_self_eq_true] <;> rfl
      have := runs_find (S := fun i => Sx 14 [.fsl nl cl 1 (zs.map (IV.int .i64)), .fsl nl' cl' 1 (ws.map (IV.int .i64)), .bool false, .int .i64 (i : Nat)] []) (N := zs.length) (bad := pairBad zs ws)
        (R := fun i => Sx 14 [.fsl nl cl 1 (zs.map (IV.int .i64)), .fsl nl' cl' 1 (ws.map (IV.int .i64)), .bool false, .int .i64 (i : Nat)] []) (E := Sx 14 [.fsl nl cl 1 (zs.map (IV.int .i64)), .fsl nl' cl' 1 (ws.map (IV.int .i64)), .bool false, .int .i64 (zs.length : Nat)] []) (e1 := .ret) (e2 := .exit 0)
        loops_none hin (by simp) (by simp) (fun i hi hb => (round i hi).trans (by rw [hb]; rfl)) (fun i hi hb => (round i hi).trans (by rw [hb]; rfl)) (by
          refine (rfit_tree _ _ _ _ _ _ _ _ _).trans ?_
          have d1 : decide ((zs.length : Int) < ((zs.map (IV.int .i64)).length : Int)) = false := by simp
          rw [d1]
          rfl)
      exact this
    simp only [List.mem_cons, List.not_mem_nil, or_false, Prod.mk.injEq] at h
    rcases h with ⟨h1, rfl, rfl, rfl⟩ | ⟨h1, rfl, rfl, rfl⟩
    · have hk := key h1.symm
      have hb : anyOf (pairBad (toInts xs) (toInts ys)) xs.length = true := by simp only [Bool.true_eq, Bool.and_eq_true] at h1; exact h1.2
      rw [hb] at hk
      exact hk
    · have hk := key h1.symm
      have hb : anyOf (pairBad (toInts xs) (toInts ys)) xs.length = false := by simp only [Bool.true_eq, Bool.and_eq_true, Bool.not_eq_true'] at h1; exact h1.2
      rw [hb] at hk
      exact hk
  · cases h
theorem rfitLs_ok : LoopsOK Try.prog hint (acall Try.prog hint (ovrOf (tab []))) rfitLs := ltab_cons (by kernel_rfl) rfit_loop ltab_nil
theorem fitB_pair {xs ys : List IV} (hl : xs.length = ys.length) (hf : xs.length ≤ 64) : fitB xs ys = !(anyOf (pairBad (toInts xs) (toInts ys)) xs.length) := by
  have hn : (toInts xs).length = xs.length := by simp [toInts]
  have hn2 : (toInts ys).length = ys.length := by simp [toInts]
  cases hb : anyOf (pairBad (toInts xs) (toInts ys)) xs.length with
  | false =>
    rw [anyOf_false] at hb
    have hz : ∀ (l : List Int) (x : Int), x ∈ l → ∃ i, i < l.length ∧ l.getD i 0 = x := by
      intro l x hx
      obtain ⟨i, hi, rfl⟩ := List.mem_iff_getElem.1 hx
      exact ⟨i, hi, by rw [List.getD_eq_getElem?_getD, List.getElem?_eq_getElem hi]; rfl⟩
    have : fitB xs ys = true := fitB_iff.2 ⟨hl, hf, fun x hx => by
      obtain ⟨i, hi, rfl⟩ := hz _ x hx
      have := hb i (by omega)
      simp only [pairBad, Bool.or_eq_false_iff, decide_eq_false_iff_not] at this
      omega, fun x hx => by
      obtain ⟨i, hi, rfl⟩ := hz _ x hx
      have := hb i (by omega)
      simp only [pairBad, Bool.or_eq_false_iff, decide_eq_false_iff_not] at this
      omega⟩
    rw [this]; rfl
  | true =>
    rw [anyOf_true] at hb
    obtain ⟨i, hi, hb⟩ := hb
    cases hfb : fitB xs ys with
    | false => rfl
    | true =>
      obtain ⟨_, _, h1, h2⟩ := fitB_iff.1 hfb
      have a1 := h1 _ (getD_mem (show i < (toInts xs).length by omega))
      have a2 := h2 _ (getD_mem (show i < (toInts ys).length by omega))
      simp only [pairBad, Bool.or_eq_true, decide_eq_true_eq] at hb
      omega
theorem rfit_known : Known Try.prog hint 14 fitF := by
  refine known_of fits (spec := tab []) tab_nil rfitLs_ok ?_
  intro xs T v T1 h
  unfold fitF at h
  split at h
  · rename_i nl cl z xs nl' cl' z' ys
    simp only [List.mem_cons, List.not_mem_nil, or_false, Prod.mk.injEq] at h
    obtain ⟨h1, rfl, rfl⟩ := h
    refine ⟨30, (rfit_call nl cl z xs nl' cl' z' ys).trans ?_⟩
    have h1 := h1.symm
    by_cases hl : xs.length = ys.length
    · by_cases hf : xs.length ≤ 64
      · have c1 : (bif (xs.length : Int) != (ys.length : Int) then true else decide ((xs.length : Int) > 64)) = false := by
          have : ((xs.length : Int) != (ys.length : Int)) = false := by simp [hl]
          rw [this]
          simp
          omega
        have ht : rfitT z xs z' ys = true := by simp [rfitT, h1, hl, hf]; omega
        rw [c1, ht, fitB_pair hl hf]
        cases anyOf (pairBad (toInts xs) (toInts ys)) xs.length <;> rfl
      · have c1 : (bif (xs.length : Int) != (ys.length : Int) then true else decide ((xs.length : Int) > 64)) = true := by
          have : decide ((xs.length : Int) > 64) = true := by simp; omega
          rw [this]
          cases ((xs.length : Int) != (ys.length : Int)) <;> rfl
        have hb : fitB xs ys = false := by
          cases hq : fitB xs ys with
          | false => rfl
          | true => exact absurd (fitB_iff.1 hq).2.1 hf
        rw [c1, hb]
        rfl
    · have c1 : ((xs.length : Int) != (ys.length : Int)) = true := by simp; omega
      have hb : fitB xs ys = false := by
        cases hq : fitB xs ys with
        | false => rfl
        | true => exact absurd (fitB_iff.1 hq).1 hl
      rw [c1, hb]
      rfl
  · cases h
end Go.Proofs.Ytfcedalbamafiaa
