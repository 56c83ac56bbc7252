/- What Combine, Fit and what they call answer. It bears no condition. -/
import Derived.Test.YtfcedalbamafiaaChBase
namespace Go.Proofs.Ytfcedalbamafiaa
open Go Go.Im
set_option linter.unusedVariables false
set_option linter.unusedSimpArgs false

theorem wrap_i64 (n : Int) : IntKind.i64.wrap n = (n + 9223372036854775808) % 18446744073709551616 - 9223372036854775808 := by
  have h1 : (2 : Int) ^ 64 = 18446744073709551616 := rfl
  have h2 : (2 : Int) ^ (64 - 1) = 9223372036854775808 := rfl
  simp only [IntKind.wrap, IntKind.signed, IntKind.bits, Bool.true_and, h1, h2, decide_eq_true_eq]
  split <;> omega
theorem size2 : sizeAt Try.prog 2 = 1 := by kernel_rfl
/-- A row of whole numbers that a loop may go through. -/
def okRow (z : Nat) (xs : List IV) : Bool := Nat.beq z 1 && isInts .i64 xs && decide (xs.length ≤ 4611686018427387904)
theorem okRow_iff {z : Nat} {xs : List IV} (h : okRow z xs = true) : z = 1 ∧ xs = (toInts xs).map (IV.int .i64) ∧ xs.length ≤ 4611686018427387904 := by
  simp only [okRow, Bool.and_eq_true, decide_eq_true_eq] at h
  exact ⟨Nat.eq_of_beq_eq_true h.1.1, isInts_eq h.1.2, h.2⟩

/-! ### Rounds -/
theorem idx37_tree (nl : Option Bool) (cl : Bool) (z : Nat) (xs : List IV) (n i : Int) : Rd (tab []) 49 26 (Sx 49 [.fsl nl cl z xs, .fn 37 [], .int .i64 0, .int .i64 n, .int .i64 i] []) =
  (bif decide (i < n) then
     bif decide (z = (1 : Nat) ∧ (0 : Int) ≤ i ∧ i < (↑xs.length : Int)) then
       bif isOf (LT.i IntKind.i64) (nthD (nthD xs i.toNat).cells (0 : Nat)) then
         bif
             bif decide (intOf (nthD (nthD xs i.toNat).cells (0 : Nat)) < (-1099511627776 : Int)) then true
             else decide (intOf (nthD (nthD xs i.toNat).cells (0 : Nat)) > (1099511627776 : Int)) then
           some
             (Ex.ret,
               Sx (49 : Nat)
                 [IV.fsl nl cl z xs, IV.fn (nat_lit 37) [], IV.int IntKind.i64 i, IV.int IntKind.i64 n,
                   IV.int IntKind.i64 i]
                 [])
         else
           some
             (Ex.normal,
               Sx (49 : Nat)
                 [IV.fsl nl cl z xs, IV.fn (nat_lit 37) [], IV.int IntKind.i64 (0 : Int), IV.int IntKind.i64 n,
                   IV.int IntKind.i64 (IntKind.i64.wrap (i + (1 : Int)))]
                 [])
       else none
     else none
   else
     some
       (Ex.exit (nat_lit 0),
         Sx (49 : Nat)
           [IV.fsl nl cl z xs, IV.fn (nat_lit 37) [], IV.int IntKind.i64 (0 : Int), IV.int IntKind.i64 n,
             IV.int IntKind.i64 i]
           [])) := by kernel_rfl
theorem idx38_tree (nl : Option Bool) (cl : Bool) (z : Nat) (xs : List IV) (n i : Int) : Rd (tab []) 49 26 (Sx 49 [.fsl nl cl z xs, .fn 38 [], .int .i64 0, .int .i64 n, .int .i64 i] []) =
  (bif decide (i < n) then
     bif decide (z = (1 : Nat) ∧ (0 : Int) ≤ i ∧ i < (↑xs.length : Int)) then
       bif isOf (LT.i IntKind.i64) (nthD (nthD xs i.toNat).cells (0 : Nat)) then
         bif
             bif decide (intOf (nthD (nthD xs i.toNat).cells (0 : Nat)) < (0 : Int)) then true
             else decide (intOf (nthD (nthD xs i.toNat).cells (0 : Nat)) > (1099511627776 : Int)) then
           some
             (Ex.ret,
               Sx (49 : Nat)
                 [IV.fsl nl cl z xs, IV.fn (nat_lit 38) [], IV.int IntKind.i64 i, IV.int IntKind.i64 n,
                   IV.int IntKind.i64 i]
                 [])
         else
           some
             (Ex.normal,
               Sx (49 : Nat)
                 [IV.fsl nl cl z xs, IV.fn (nat_lit 38) [], IV.int IntKind.i64 (0 : Int), IV.int IntKind.i64 n,
                   IV.int IntKind.i64 (IntKind.i64.wrap (i + (1 : Int)))]
                 [])
       else none
     else none
   else
     some
       (Ex.exit (nat_lit 0),
         Sx (49 : Nat)
           [IV.fsl nl cl z xs, IV.fn (nat_lit 38) [], IV.int IntKind.i64 (0 : Int), IV.int IntKind.i64 n,
             IV.int IntKind.i64 i]
           [])) := by kernel_rfl

def bad37 (x : Int) : Bool := bif decide (x < -1099511627776) then true else decide (x > 1099511627776)
def bad38 (x : Int) : Bool := bif decide (x < 0) then true else decide (x > 1099511627776)
def badOf (g : FuncId) : Int → Bool := match g with
  | 37 => bad37
  | _ => bad38
def goodFn (g : FuncId) : Bool := Nat.beq g 37 || Nat.beq g 38

/-- IndexFunc's loop. -/
theorem idx_runs {g : FuncId} (hg : goodFn g = true) (nl : Option Bool) (cl : Bool) (zs : List Int) (hs : zs.length ≤ 4611686018427387904) : ∀ (k i : Nat), i + k = zs.length → (∀ j, j < i → badOf g (zs.getD j 0) = false) →
    Runs Try.prog hint (acall Try.prog hint (ovrOf (tab []))) 0 (hint.kp 49) (loopAt Try.prog 49 26) (Sx 49 [.fsl nl cl 1 (zs.map (IV.int .i64)), .fn g [], .int .i64 0, .int .i64 zs.length, .int .i64 i] [])
      (bif zs.any (badOf g) then .ret else .exit 0) (Sx 49 [.fsl nl cl 1 (zs.map (IV.int .i64)), .fn g [], .int .i64 (bif zs.any (badOf g) then (zs.findIdx (badOf g) : Int) else 0), .int .i64 zs.length, .int .i64 (zs.findIdx (badOf g) : Int)] []) := by
  have tree : ∀ i : Nat, i < zs.length → Rd (tab []) 49 26 (Sx 49 [.fsl nl cl 1 (zs.map (IV.int .i64)), .fn g [], .int .i64 0, .int .i64 zs.length, .int .i64 i] []) =
      bif badOf g (zs.getD i 0) then some (.ret, Sx 49 [.fsl nl cl 1 (zs.map (IV.int .i64)), .fn g [], .int .i64 i, .int .i64 zs.length, .int .i64 i] [])
      else some (.normal, Sx 49 [.fsl nl cl 1 (zs.map (IV.int .i64)), .fn g [], .int .i64 0, .int .i64 zs.length, .int .i64 ((i + 1 : Nat) : Int)] []) := by
    intro i hi
    have hw : IntKind.i64.wrap ((i : Int) + 1) = ((i + 1 : Nat) : Int) := by rw [wrap_i64]; omega
    have d1 : decide ((i : Int) < (zs.length : Int)) = true := by simp; omega
    have d2 : decide (1 = 1 ∧ (0 : Int) ≤ i ∧ (i : Int) < ((zs.map (IV.int .i64)).length : Int)) = true := by simp [size2]; omega
    simp only [goodFn, Bool.or_eq_true] at hg
    rcases hg with hg | hg
    · obtain rfl := Nat.eq_of_beq_eq_true hg
      rw [idx37_tree, d1, d2, Int.toNat_natCast, nthD_map hi]
      simp only [IV.cells, cell_int, isOf_int, intOf_int, cond_true, hw, badOf, bad37]
      rfl
    · obtain rfl := Nat.eq_of_beq_eq_true hg
      rw [idx38_tree, d1, d2, Int.toNat_natCast, nthD_map hi]
      simp only [IV.cells, cell_int, isOf_int, intOf_int, cond_true, hw, badOf, bad38]
      rfl
  have last : Rd (tab []) 49 26 (Sx 49 [.fsl nl cl 1 (zs.map (IV.int .i64)), .fn g [], .int .i64 0, .int .i64 zs.length, .int .i64 zs.length] []) =
      some (.exit 0, Sx 49 [.fsl nl cl 1 (zs.map (IV.int .i64)), .fn g [], .int .i64 0, .int .i64 zs.length, .int .i64 zs.length] []) := by
    have d1 : decide ((zs.length : Int) < (zs.length : Int)) = false := by simp
    simp only [goodFn, Bool.or_eq_true] at hg
    rcases hg with hg | hg
    · obtain rfl := Nat.eq_of_beq_eq_true hg
      rw [idx37_tree, d1]
      rfl
    · obtain rfl := Nat.eq_of_beq_eq_true hg
      rw [idx38_tree, d1]
      rfl
  have hin := inner_of (P := Try.prog) (H := hint) (call := acall Try.prog hint (ovrOf (tab []))) (f := 49) (q := 26) (ls := fun _ _ => none) (by kernel_rfl)
  intro k
  induction k with
  | zero =>
    intro i h hb
    obtain rfl : i = zs.length := by omega
    have hall : ∀ x ∈ zs, badOf g x = false := by
      intro x hx
      obtain ⟨j, hj, rfl⟩ := List.mem_iff_getElem.1 hx
      have := hb j hj
      rwa [List.getD_eq_getElem?_getD, List.getElem?_eq_getElem hj] at this
    have h1 : zs.any (badOf g) = false := by simpa using hall
    have h2 : zs.findIdx (badOf g) = zs.length := List.findIdx_eq_length.2 hall
    rw [h1, h2]
    exact Runs.last loops_none hin (by simp) last
  | succ k ih =>
    intro i h hb
    have hi : i < zs.length := by omega
    have ht := tree i hi
    cases hc : badOf g (zs.getD i 0) with
    | true =>
      rw [hc] at ht
      have hz : zs.getD i 0 = zs[i] := by rw [List.getD_eq_getElem?_getD, List.getElem?_eq_getElem hi]; rfl
      have h2 : zs.findIdx (badOf g) = i := by
        rw [List.findIdx_eq hi]
        refine ⟨by rw [← hz]; exact hc, fun j hj => ?_⟩
        have := hb j hj
        rwa [List.getD_eq_getElem?_getD, List.getElem?_eq_getElem (by omega)] at this
      have h1 : zs.any (badOf g) = true := List.any_eq_true.2 ⟨zs[i], List.getElem_mem hi, by rw [← hz]; exact hc⟩
      rw [h1, h2]
      exact Runs.last loops_none hin (by simp) ht
    | false =>
      rw [hc] at ht
      refine Runs.step loops_none hin ht (ih (i + 1) (by omega) fun j hj => ?_)
      rcases Nat.lt_succ_iff_lt_or_eq.1 hj with h | h
      · exact hb j h
      · subst h; exact hc

def idxTest (z : Nat) (xs : List IV) (g : FuncId) : Bool := okRow z xs && goodFn g
def anyBad (xs : List IV) (g : FuncId) : Bool := (toInts xs).any (badOf g)
def firstBad (xs : List IV) (g : FuncId) : Int := ((toInts xs).findIdx (badOf g) : Nat)
def idxG : LiveF := fun vs bx => match vs, bx with
  | [.fsl nl cl z xs, .fn g [], .int .i64 r, .int .i64 n, .int .i64 i], [] =>
    [(idxTest z xs g && decide (r = 0 ∧ n = xs.length ∧ i = 0) && anyBad xs g, .ret, [.fsl nl cl z xs, .fn g [], .int .i64 (firstBad xs g), .int .i64 n, .int .i64 (firstBad xs g)], []),
     (idxTest z xs g && decide (r = 0 ∧ n = xs.length ∧ i = 0) && !(anyBad xs g), .exit 0, [.fsl nl cl z xs, .fn g [], .int .i64 0, .int .i64 n, .int .i64 (firstBad xs g)], [])]
  | _, _ => []
theorem idx_loop : LoopOK Try.prog hint (acall Try.prog hint (ovrOf (tab []))) (itOf Try.prog hint (acall Try.prog hint (ovrOf (tab [])))) (hint.kp 49) (itemAt Try.prog 49 26) (loopF Try.prog hint 49 0 idxG) := by
  refine loopF_ok fun vs bx e vs' bx' h => ?_
  unfold idxG at h
  split at h
  · rename_i nl cl z xs g r n i
    have key : ∀ {b : Bool}, (idxTest z xs g && decide (r = 0 ∧ n = xs.length ∧ i = 0) && b) = true → Runs Try.prog hint (acall Try.prog hint (ovrOf (tab []))) 0 (hint.kp 49) (loopAt Try.prog 49 26) (stAt Try.prog hint 49 [.fsl nl cl z xs, .fn g [], .int .i64 r, .int .i64 n, .int .i64 i] [])
      (bif anyBad xs g then .ret else .exit 0) (stAt Try.prog hint 49 [.fsl nl cl z xs, .fn g [], .int .i64 (bif anyBad xs g then firstBad xs g else 0), .int .i64 n, .int .i64 (firstBad xs g)] []) := by
      intro b ht
      simp only [idxTest, Bool.and_eq_true, decide_eq_true_eq] at ht
      obtain ⟨⟨⟨hr, hg⟩, rfl, rfl, rfl⟩, _⟩ := ht
      obtain ⟨rfl, hx, hl⟩ := okRow_iff hr
      have := idx_runs hg nl cl (toInts xs) (by simpa [toInts] using hl) (toInts xs).length 0 (by omega) (fun j hj => by omega)
      rw [← hx] at this
      have hn : ((toInts xs).length : Int) = (xs.length : Int) := by simp [toInts]
      rw [hn] at this
      exact this
    simp only [List.mem_cons, List.not_mem_nil, or_false, Prod.mk.injEq] at h
    rcases h with ⟨h1, rfl, rfl, rfl⟩ | ⟨h1, rfl, rfl, rfl⟩
    · have hk := key h1.symm
      have hb : anyBad xs g = true := by simp only [Bool.true_eq, Bool.and_eq_true] at h1; exact h1.2
      rw [hb] at hk
      exact hk
    · have hk := key h1.symm
      have hb : anyBad xs g = false := by simp only [Bool.true_eq, Bool.and_eq_true, Bool.not_eq_true'] at h1; exact h1.2
      rw [hb] at hk
      exact hk
  · cases h
noncomputable abbrev idxLs : FuncId → Nat → Option LoopF := ltab [(49, 26, loopF Try.prog hint 49 0 idxG)]
theorem idxLs_ok : LoopsOK Try.prog hint (acall Try.prog hint (ovrOf (tab []))) idxLs := ltab_cons (by kernel_rfl) idx_loop ltab_nil
theorem idx_call (nl : Option Bool) (cl : Bool) (z : Nat) (xs : List IV) (g : FuncId) : callK Try.prog hint (tab []) idxLs 30 49 [.fsl nl cl z xs, .fn g []] [] (fun v T => some (v, T)) =
  (bif
       idxTest z xs g &&
           decide ((0 : Int) = (0 : Int) ∧ (↑xs.length : Int) = (↑xs.length : Int) ∧ (0 : Int) = (0 : Int)) &&
         anyBad xs g then
     some (IV.int IntKind.i64 (firstBad xs g), [])
   else
     bif
         idxTest z xs g &&
             decide ((0 : Int) = (0 : Int) ∧ (↑xs.length : Int) = (↑xs.length : Int) ∧ (0 : Int) = (0 : Int)) &&
           !anyBad xs g then
       some (IV.int IntKind.i64 (-1 : Int), [])
     else none) := by kernel_rfl
def idxF : SpecF := fun xs T => match xs, T with
  | [.fsl nl cl z l, .fn g []], [] => [(idxTest z l g && anyBad l g, .int .i64 (firstBad l g), []), (idxTest z l g && !(anyBad l g), .int .i64 (-1), [])]
  | _, _ => []
theorem idx_known : Known Try.prog hint 49 idxF := by
  refine known_of fits (spec := tab []) tab_nil idxLs_ok ?_
  intro xs T v T1 h
  unfold idxF at h
  split at h
  · rename_i nl cl z l g
    refine ⟨30, (idx_call nl cl z l g).trans ?_⟩
    simp only [List.mem_cons, List.not_mem_nil, or_false, Prod.mk.injEq] at h
    rcases h with ⟨h1, rfl, rfl⟩ | ⟨h1, rfl, rfl⟩
    · simp only [Bool.true_eq, Bool.and_eq_true] at h1
      simp [h1.1, h1.2]
    · simp only [Bool.true_eq, Bool.and_eq_true, Bool.not_eq_true'] at h1
      simp [h1.1, h1.2]
  · cases h

/-! ### fit -/
theorem fit_call (nl : Option Bool) (cl : Bool) (z : Nat) (xs : List IV) (nl' : Option Bool) (cl' : Bool) (z' : Nat) (ys : List IV) : C (tab [(49, idxF)]) 27 [.fsl nl cl z xs, .fsl nl' cl' z' ys] =
  (bif (bif (↑xs.length : Int) == (↑ys.length : Int) then decide ((↑xs.length : Int) ≤ (64 : Int)) else false) == true then
     bif idxTest z xs (37 : Nat) && anyBad xs (37 : Nat) then some (IV.bool false, [])
     else
       bif idxTest z xs (37 : Nat) && !anyBad xs (37 : Nat) then
         bif idxTest z' ys (38 : Nat) && anyBad ys (38 : Nat) then some (IV.bool false, [])
         else bif idxTest z' ys (38 : Nat) && !anyBad ys (38 : Nat) then some (IV.bool true, []) else none
       else none
   else some (IV.bool false, [])) := by kernel_rfl
end Go.Proofs.Ytfcedalbamafiaa
