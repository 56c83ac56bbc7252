/- What Combine and Fit answer. It bears no condition. -/
import Derived.Test.YtfcedalbamafiaaChA
namespace Go.Proofs.Ytfcedalbamafiaa
open Go Go.Im
set_option linter.unusedVariables false
set_option linter.unusedSimpArgs false

theorem tdiv_pos (x : Int) {b : Int} (h : 0 < b) : x.tdiv b = if 0 ≤ x then x / b else -((-x) / b) := by
  split
  · rename_i h0
    exact Int.tdiv_eq_ediv_of_nonneg h0
  · rename_i h0
    have := Int.tdiv_eq_ediv_of_nonneg (b := b) (show 0 ≤ -x by omega)
    rw [Int.neg_tdiv] at this
    omega
theorem tmod_pos (x : Int) {b : Int} (h : 0 < b) : x.tmod b = if 0 ≤ x then x % b else -((-x) % b) := by
  split
  · rename_i h0
    exact Int.tmod_eq_emod_of_nonneg h0
  · rename_i h0
    have := Int.tmod_eq_emod_of_nonneg (b := b) (show 0 ≤ -x by omega)
    rw [Int.neg_tmod] at this
    omega

/-! ### Weights -/
def weightG (d : Int) : Int := if 65536 / (d / 65536 + 1) < 1 then 1 else 65536 / (d / 65536 + 1)
theorem weight_lo (d : Int) : 1 ≤ weightG d := by unfold weightG; split <;> omega
theorem weight_hi {d : Int} (h : 0 ≤ d) : weightG d ≤ 65536 := by
  unfold weightG
  split
  · omega
  · exact Int.le_trans (Int.ediv_le_self _ (by omega)) (by omega)
def inDist (d : Int) : Bool := decide (0 ≤ d ∧ d ≤ 1099511627776)
def weightF : SpecF := fun xs T => match xs, T with
  | [.int .i64 d], [] => [(inDist d, .int .i64 (weightG d), [])]
  | _, _ => []
theorem weight_tree (d : Int) : C (tab []) 28 [.int .i64 d] =
  (bif decide (IntKind.i64.wrap (IntKind.i64.wrap (d.tdiv (65536 : Int)) + (1 : Int)) = (0 : Int)) then none
   else
     some
       (IV.int IntKind.i64
           (bif
               decide
                 ((1 : Int) >
                   IntKind.i64.wrap
                     (Int.tdiv (65536 : Int)
                       (IntKind.i64.wrap (IntKind.i64.wrap (d.tdiv (65536 : Int)) + (1 : Int))))) then
             (1 : Int)
           else
             IntKind.i64.wrap
               (Int.tdiv (65536 : Int) (IntKind.i64.wrap (IntKind.i64.wrap (d.tdiv (65536 : Int)) + (1 : Int))))),
         [])) := by kernel_rfl
theorem weight_known : Known Try.prog hint 28 weightF := by
  refine known_of fits (spec := tab []) tab_nil loops_none ?_
  intro xs T v T1 h
  unfold weightF at h
  split at h
  · rename_i d
    simp only [List.mem_cons, List.not_mem_nil, or_false, Prod.mk.injEq] at h
    obtain ⟨h1, rfl, rfl⟩ := h
    refine ⟨30, (weight_tree d).trans ?_⟩
    simp only [inDist, Bool.true_eq, decide_eq_true_eq] at h1
    have e1 : d.tdiv 65536 = d / 65536 := by rw [tdiv_pos _ (by decide), if_pos h1.1]
    have hq : 0 ≤ d / 65536 ∧ d / 65536 ≤ 16777216 := by omega
    have e2 : IntKind.i64.wrap (IntKind.i64.wrap (d / 65536) + 1) = d / 65536 + 1 := by simp only [wrap_i64]; omega
    have e3 : (65536 : Int).tdiv (d / 65536 + 1) = 65536 / (d / 65536 + 1) := Int.tdiv_eq_ediv_of_nonneg (by decide)
    have b1 : 0 ≤ 65536 / (d / 65536 + 1) := Int.ediv_nonneg (by decide) (by omega)
    have b2 : 65536 / (d / 65536 + 1) ≤ 65536 := Int.ediv_le_self _ (by decide)
    have e4 : IntKind.i64.wrap (65536 / (d / 65536 + 1)) = 65536 / (d / 65536 + 1) := by rw [wrap_i64]; omega
    have d1 : decide (d / 65536 + 1 = 0) = false := by simp; omega
    rw [e1, e2, e3, e4, d1]
    simp only [cond_false, Bool.cond_decide, weightG]
  · cases h

/-! ### Fit -/
def fitB (xs ys : List IV) : Bool := (Nat.beq xs.length ys.length && decide (xs.length ≤ 64)) && !(anyBad xs 37) && !(anyBad ys 38)
def fitF : SpecF := fun xs T => match xs, T with
  | [.fsl nl cl z xs, .fsl nl' cl' z' ys], [] => [(okRow z xs && okRow z' ys, .bool (fitB xs ys), [])]
  | _, _ => []
theorem fit_known : Known Try.prog hint 27 fitF := by
  refine known_of fits (spec := tab [(49, idxF)]) (tab_cons idx_known tab_nil) loops_none ?_
  intro xs T v T1 h
  unfold fitF at h
  split at h
  · rename_i nl cl z xs nl' cl' z' ys
    simp only [List.mem_cons, List.not_mem_nil, or_false, Prod.mk.injEq] at h
    obtain ⟨h1, rfl, rfl⟩ := h
    refine ⟨30, (fit_call nl cl z xs nl' cl' z' ys).trans ?_⟩
    simp only [Bool.true_eq, Bool.and_eq_true] at h1
    have t1 : idxTest z xs 37 = true := by simp only [idxTest, h1.1]; rfl
    have t2 : idxTest z' ys 38 = true := by simp only [idxTest, h1.2]; rfl
    have hl : ((xs.length : Int) == (ys.length : Int)) = Nat.beq xs.length ys.length := by
      rw [Bool.eq_iff_iff]
      simp only [beq_iff_eq, Nat.beq_eq]
      omega
    have hl2 : decide ((xs.length : Int) ≤ 64) = decide (xs.length ≤ 64) := by
      rw [Bool.eq_iff_iff]
      simp only [decide_eq_true_eq]
      omega
    simp only [t1, t2, hl, hl2, fitB, Bool.true_and]
    cases Nat.beq xs.length ys.length <;> cases decide (xs.length ≤ 64) <;> cases anyBad xs 37 <;> cases anyBad ys 38 <;> rfl
  · cases h
theorem fitB_iff {xs ys : List IV} : fitB xs ys = true ↔ xs.length = ys.length ∧ xs.length ≤ 64 ∧ (∀ x ∈ toInts xs, -1099511627776 ≤ x ∧ x ≤ 1099511627776) ∧ (∀ x ∈ toInts ys, 0 ≤ x ∧ x ≤ 1099511627776) := by
  have h1 : ∀ l : List Int, (l.any (badOf 37)) = false ↔ ∀ x ∈ l, -1099511627776 ≤ x ∧ x ≤ 1099511627776 := by
    intro l
    rw [List.any_eq_false]
    refine forall_congr' fun x => forall_congr' fun _ => ?_
    simp only [badOf, bad37, Bool.cond_decide]
    split <;> simp <;> omega
  have h2 : ∀ l : List Int, (l.any (badOf 38)) = false ↔ ∀ x ∈ l, 0 ≤ x ∧ x ≤ 1099511627776 := by
    intro l
    rw [List.any_eq_false]
    refine forall_congr' fun x => forall_congr' fun _ => ?_
    simp only [badOf, bad38, Bool.cond_decide]
    split <;> simp <;> omega
  simp only [fitB, Bool.and_eq_true, Bool.not_eq_true', anyBad, h1, h2, decide_eq_true_eq, Nat.beq_eq]
  constructor
  · rintro ⟨⟨⟨a, b⟩, c⟩, d⟩; exact ⟨a, b, c, d⟩
  · rintro ⟨a, b, c, d⟩; exact ⟨⟨⟨a, b⟩, c⟩, d⟩

/-! ### Combine -/
abbrev tabC (fb : List IV → List IV → Bool) (w : Int → Int) : FuncId → Option SpecF := tab [(27, fun xs T => match xs, T with
  | [.fsl nl cl z xs, .fsl nl' cl' z' ys], [] => [(okRow z xs && okRow z' ys, .bool (fb xs ys), [])]
  | _, _ => []), (28, fun xs T => match xs, T with
  | [.int .i64 d], [] => [(inDist d, .int .i64 (w d), [])]
  | _, _ => [])]
theorem com_tree (fb : List IV → List IV → Bool) (w : Int → Int) (nl : Option Bool) (cl : Bool) (z : Nat) (xs : List IV) (nl' : Option Bool) (cl' : Bool) (z' : Nat) (ys : List IV) (n sum al i : Int) : Rd (tabC fb w) 13 250 (Sx 13 [.fsl nl' cl' z' ys, .int .i64 sum, .int .i64 al, .fsl nl cl z xs, .int .i64 n, .int .i64 i] []) =
  (bif decide (i < n) then
     bif decide (z = (1 : Nat) ∧ (0 : Int) ≤ i ∧ i < (↑xs.length : Int)) then
       bif isOf (LT.i IntKind.i64) (nthD (nthD xs i.toNat).cells (0 : Nat)) then
         bif decide (z' = (1 : Nat) ∧ (0 : Int) ≤ i ∧ i < (↑ys.length : Int)) then
           bif isOf (LT.i IntKind.i64) (nthD (nthD ys i.toNat).cells (0 : Nat)) then
             bif inDist (intOf (nthD (nthD ys i.toNat).cells (0 : Nat))) then
               some
                 (Ex.normal,
                   Sx (13 : Nat)
                     [IV.fsl nl' cl' z' ys,
                       IV.int IntKind.i64
                         (IntKind.i64.wrap
                           (sum +
                             IntKind.i64.wrap
                               (w (intOf (nthD (nthD ys i.toNat).cells (0 : Nat))) *
                                 intOf (nthD (nthD xs i.toNat).cells (0 : Nat))))),
                       IV.int IntKind.i64 (IntKind.i64.wrap (al + w (intOf (nthD (nthD ys i.toNat).cells (0 : Nat))))),
                       IV.fsl nl cl z xs, IV.int IntKind.i64 n, IV.int IntKind.i64 (IntKind.i64.wrap (i + (1 : Int)))]
                     [])
             else none
           else none
         else none
       else none
     else none
   else
     some
       (Ex.exit (nat_lit 0),
         Sx (13 : Nat)
           [IV.fsl nl' cl' z' ys, IV.int IntKind.i64 sum, IV.int IntKind.i64 al, IV.fsl nl cl z xs, IV.int IntKind.i64 n,
             IV.int IntKind.i64 i]
           [])) := by kernel_rfl
theorem rcom_tree (nl : Option Bool) (cl : Bool) (z : Nat) (xs : List IV) (nl' : Option Bool) (cl' : Bool) (z' : Nat) (ys : List IV) (sum al i : Int) : Rd (tab []) 22 250 (Sx 22 [.fsl nl cl z xs, .fsl nl' cl' z' ys, .int .i64 sum, .int .i64 al, .int .i64 i] []) =
  (bif decide (i < (↑xs.length : Int)) then
     bif decide (z' = (1 : Nat) ∧ (0 : Int) ≤ i ∧ i < (↑ys.length : Int)) then
       bif isOf (LT.i IntKind.i64) (nthD (nthD ys i.toNat).cells (0 : Nat)) then
         bif
             decide
               (IntKind.i64.wrap
                   (IntKind.i64.wrap ((intOf (nthD (nthD ys i.toNat).cells (0 : Nat))).tdiv (65536 : Int)) + (1 : Int)) =
                 (0 : Int)) then
           none
         else
           bif
               decide
                 (IntKind.i64.wrap
                     (Int.tdiv (65536 : Int)
                       (IntKind.i64.wrap
                         (IntKind.i64.wrap ((intOf (nthD (nthD ys i.toNat).cells (0 : Nat))).tdiv (65536 : Int)) +
                           (1 : Int)))) <
                   (1 : Int)) then
             bif decide (z = (1 : Nat) ∧ (0 : Int) ≤ i ∧ i < (↑xs.length : Int)) then
               bif isOf (LT.i IntKind.i64) (nthD (nthD xs i.toNat).cells (0 : Nat)) then
                 some
                   (Ex.normal,
                     Sx (22 : Nat)
                       [IV.fsl nl cl z xs, IV.fsl nl' cl' z' ys,
                         IV.int IntKind.i64
                           (IntKind.i64.wrap
                             (sum + IntKind.i64.wrap ((1 : Int) * intOf (nthD (nthD xs i.toNat).cells (0 : Nat))))),
                         IV.int IntKind.i64 (IntKind.i64.wrap (al + (1 : Int))),
                         IV.int IntKind.i64 (IntKind.i64.wrap (i + (1 : Int)))]
                       [])
               else none
             else none
           else
             bif decide (z = (1 : Nat) ∧ (0 : Int) ≤ i ∧ i < (↑xs.length : Int)) then
               bif isOf (LT.i IntKind.i64) (nthD (nthD xs i.toNat).cells (0 : Nat)) then
                 some
                   (Ex.normal,
                     Sx (22 : Nat)
                       [IV.fsl nl cl z xs, IV.fsl nl' cl' z' ys,
                         IV.int IntKind.i64
                           (IntKind.i64.wrap
                             (sum +
                               IntKind.i64.wrap
                                 (IntKind.i64.wrap
                                     (Int.tdiv (65536 : Int)
                                       (IntKind.i64.wrap
                                         (IntKind.i64.wrap
                                             ((intOf (nthD (nthD ys i.toNat).cells (0 : Nat))).tdiv (65536 : Int)) +
                                           (1 : Int)))) *
                                   intOf (nthD (nthD xs i.toNat).cells (0 : Nat))))),
                         IV.int IntKind.i64
                           (IntKind.i64.wrap
                             (al +
                               IntKind.i64.wrap
                                 (Int.tdiv (65536 : Int)
                                   (IntKind.i64.wrap
                                     (IntKind.i64.wrap
                                         ((intOf (nthD (nthD ys i.toNat).cells (0 : Nat))).tdiv (65536 : Int)) +
                                       (1 : Int)))))),
                         IV.int IntKind.i64 (IntKind.i64.wrap (i + (1 : Int)))]
                       [])
               else none
             else none
       else none
     else none
   else
     some
       (Ex.exit (nat_lit 0),
         Sx (22 : Nat)
           [IV.fsl nl cl z xs, IV.fsl nl' cl' z' ys, IV.int IntKind.i64 sum, IV.int IntKind.i64 al, IV.int IntKind.i64 i]
           [])) := by kernel_rfl

/-! ### Sums -/
def psum (f : Nat → Int) : Nat → Int
  | 0 => 0
  | n + 1 => psum f n + f n
theorem psum_bound {f : Nat → Int} {B : Int} : ∀ {n : Nat}, (∀ i, i < n → -B ≤ f i ∧ f i ≤ B) → -(n * B) ≤ psum f n ∧ psum f n ≤ n * B
  | 0, _ => by simp [psum]
  | n + 1, h => by
    have ih := psum_bound (n := n) fun i hi => h i (by omega)
    have hn := h n (by omega)
    have e : ((n + 1 : Nat) : Int) * B = n * B + B := by rw [Int.natCast_succ, Int.add_mul, Int.one_mul]
    simp only [psum]
    rw [e]
    omega
theorem mul_bound {w z B : Int} (h1 : 1 ≤ w) (h2 : w ≤ 65536) (h3 : -B ≤ z) (h4 : z ≤ B) (hB : 0 ≤ B) : -(65536 * B) ≤ w * z ∧ w * z ≤ 65536 * B := by
  have a1 := Int.mul_le_mul_of_nonneg_left h4 (show 0 ≤ w by omega)
  have a2 := Int.mul_le_mul_of_nonneg_left h3 (show 0 ≤ w by omega)
  have a3 := Int.mul_le_mul_of_nonneg_right h2 hB
  rw [Int.mul_neg] at a2
  omega
def comS (zs ws : List Int) : Nat → Int := psum fun i => weightG (ws.getD i 0) * zs.getD i 0
def comA (ws : List Int) : Nat → Int := psum fun i => weightG (ws.getD i 0)
structure FitP (zs ws : List Int) : Prop where
  len : zs.length = ws.length
  few : zs.length ≤ 64
  off : ∀ x ∈ zs, -1099511627776 ≤ x ∧ x ≤ 1099511627776
  dist : ∀ x ∈ ws, 0 ≤ x ∧ x ≤ 1099511627776
theorem getD_mem {l : List Int} {i : Nat} (h : i < l.length) : l.getD i 0 ∈ l := by
  rw [List.getD_eq_getElem?_getD, List.getElem?_eq_getElem h]
  exact List.getElem_mem h
theorem FitP.term {zs ws : List Int} (h : FitP zs ws) {i : Nat} (hi : i < zs.length) : -72057594037927936 ≤ weightG (ws.getD i 0) * zs.getD i 0 ∧ weightG (ws.getD i 0) * zs.getD i 0 ≤ 72057594037927936 := by
  have hd := h.dist _ (getD_mem (show i < ws.length by rw [← h.len]; exact hi))
  have ho := h.off _ (getD_mem hi)
  exact mul_bound (weight_lo _) (weight_hi hd.1) ho.1 ho.2 (by decide)
theorem FitP.sum {zs ws : List Int} (h : FitP zs ws) {n : Nat} (hn : n ≤ zs.length) : -4611686018427387904 ≤ comS zs ws n ∧ comS zs ws n ≤ 4611686018427387904 := by
  have := psum_bound (f := fun i => weightG (ws.getD i 0) * zs.getD i 0) (B := 72057594037927936) (n := n) fun i hi => h.term (by omega)
  have hf := h.few
  simp only [comS]
  omega
theorem FitP.all {zs ws : List Int} (h : FitP zs ws) : ∀ {n : Nat}, n ≤ zs.length → (n : Int) ≤ comA ws n ∧ comA ws n ≤ n * 65536
  | 0, _ => by simp [comA, psum]
  | n + 1, hn => by
    have ih := h.all (n := n) (by omega)
    have hd := h.dist _ (getD_mem (show n < ws.length by rw [← h.len]; omega))
    have h1 := weight_lo (ws.getD n 0)
    have h2 := weight_hi hd.1
    simp only [comA, psum] at ih ⊢
    omega

/-! ### Combine's loop -/
theorem fitB_p {xs ys : List IV} (h : fitB xs ys = true) : FitP (toInts xs) (toInts ys) := by
  obtain ⟨a, b, c, d⟩ := fitB_iff.1 h
  exact ⟨by simpa [toInts] using a, by simpa [toInts] using b, c, d⟩

theorem com_round {zs ws : List Int} (h : FitP zs ws) (nl : Option Bool) (cl : Bool) (nl' : Option Bool) (cl' : Bool) {i : Nat} (hi : i < zs.length) :
    Rd (tabC fitB weightG) 13 250 (Sx 13 [.fsl nl' cl' 1 (ws.map (IV.int .i64)), .int .i64 (comS zs ws i), .int .i64 (comA ws i), .fsl nl cl 1 (zs.map (IV.int .i64)), .int .i64 zs.length, .int .i64 i] []) =
      some (.normal, Sx 13 [.fsl nl' cl' 1 (ws.map (IV.int .i64)), .int .i64 (comS zs ws (i + 1)), .int .i64 (comA ws (i + 1)), .fsl nl cl 1 (zs.map (IV.int .i64)), .int .i64 zs.length, .int .i64 ((i + 1 : Nat) : Int)] []) := by
  have hi' : i < ws.length := by rw [← h.len]; exact hi
  have hw : IntKind.i64.wrap ((i : Int) + 1) = ((i + 1 : Nat) : Int) := by have := h.few; rw [wrap_i64]; omega
  have d1 : decide ((i : Int) < (zs.length : Int)) = true := by simp; omega
  have d2 : decide (1 = 1 ∧ (0 : Int) ≤ i ∧ (i : Int) < ((zs.map (IV.int .i64)).length : Int)) = true := by simp [size2]; omega
  have d3 : decide (1 = 1 ∧ (0 : Int) ≤ i ∧ (i : Int) < ((ws.map (IV.int .i64)).length : Int)) = true := by simp [size2]; omega
  have d4 : inDist (ws.getD i 0) = true := by simpa [inDist] using h.dist _ (getD_mem hi')
  have t := h.term hi
  have s1 := h.sum (n := i) (by omega)
  have a1 := h.all (n := i) (by omega)
  have hf := h.few
  have a2 := h.all (n := i + 1) (by omega)
  rw [com_tree, d1, d2, d3, Int.toNat_natCast, nthD_map hi, nthD_map hi']
  simp only [IV.cells, nthD_one, isOf_int, intOf_int, cond_true, hw, d4]
  have e1 : IntKind.i64.wrap (comS zs ws i + IntKind.i64.wrap (weightG (ws.getD i 0) * zs.getD i 0)) = comS zs ws (i + 1) := by
    have : comS zs ws (i + 1) = comS zs ws i + weightG (ws.getD i 0) * zs.getD i 0 := rfl
    rw [this]
    simp only [wrap_i64]
    omega
  have e2 : IntKind.i64.wrap (comA ws i + weightG (ws.getD i 0)) = comA ws (i + 1) := by
    have e : comA ws (i + 1) = comA ws i + weightG (ws.getD i 0) := rfl
    rw [← e, wrap_i64]
    omega
  rw [e1, e2]

def comT (z : Nat) (xs : List IV) (z' : Nat) (ys : List IV) : Bool := okRow z xs && okRow z' ys && fitB xs ys
def comG : LiveF := fun vs bx => match vs, bx with
  | [.fsl nl' cl' z' ys, .int .i64 s, .int .i64 a, .fsl nl cl z xs, .int .i64 n, .int .i64 i], [] =>
    [(comT z xs z' ys && decide (s = 0 ∧ a = 0 ∧ n = xs.length ∧ i = 0), .exit 0, [.fsl nl' cl' z' ys, .int .i64 (comS (toInts xs) (toInts ys) xs.length), .int .i64 (comA (toInts ys) xs.length), .fsl nl cl z xs, .int .i64 n, .int .i64 n], [])]
  | _, _ => []
theorem com_loop : LoopOK Try.prog hint (acall Try.prog hint (ovrOf (tabC fitB weightG))) (itOf Try.prog hint (acall Try.prog hint (ovrOf (tabC fitB weightG)))) (hint.kp 13) (itemAt Try.prog 13 250) (loopF Try.prog hint 13 0 comG) := by
  refine loopF_ok fun vs bx e vs' bx' h => ?_
  unfold comG at h
  split at h
  · rename_i nl' cl' z' ys s a nl cl z xs n i
    simp only [List.mem_cons, List.not_mem_nil, or_false, Prod.mk.injEq] at h
    obtain ⟨h1, rfl, rfl, rfl⟩ := h
    simp only [comT, Bool.true_eq, Bool.and_eq_true, decide_eq_true_eq] at h1
    obtain ⟨⟨⟨h1, h2⟩, h3⟩, rfl, rfl, rfl, rfl⟩ := h1
    obtain ⟨rfl, hx, _⟩ := okRow_iff h1
    obtain ⟨rfl, hy, _⟩ := okRow_iff h2
    have hp := fitB_p h3
    have hin := inner_of (P := Try.prog) (H := hint) (call := acall Try.prog hint (ovrOf (tabC fitB weightG))) (f := 13) (q := 250) (ls := fun _ _ => none) (by kernel_rfl)
    have hn : ((toInts xs).length : Int) = (xs.length : Int) := by simp [toInts]
    have hn' : (toInts xs).length = xs.length := by simp [toInts]
    have := runs_up (X := Unit) (S := fun i _ => Sx 13 [.fsl nl' cl' 1 ((toInts ys).map (IV.int .i64)), .int .i64 (comS (toInts xs) (toInts ys) i), .int .i64 (comA (toInts ys) i), .fsl nl cl 1 ((toInts xs).map (IV.int .i64)), .int .i64 (toInts xs).length, .int .i64 i] [])
      (N := (toInts xs).length) (g := fun _ x => x) (e := .exit 0) (E := fun _ => Sx 13 [.fsl nl' cl' 1 ((toInts ys).map (IV.int .i64)), .int .i64 (comS (toInts xs) (toInts ys) (toInts xs).length), .int .i64 (comA (toInts ys) (toInts xs).length), .fsl nl cl 1 ((toInts xs).map (IV.int .i64)), .int .i64 (toInts xs).length, .int .i64 (toInts xs).length] [])
      loops_none hin (by simp) (fun i _ hi => com_round hp nl cl nl' cl' hi) (fun _ => by
        refine (com_tree _ _ _ _ _ _ _ _ _ _ _ _ _ _).trans ?_
        have d1 : decide (((toInts xs).length : Int) < ((toInts xs).length : Int)) = false := by simp
        rw [d1]
        rfl) (toInts xs).length 0 () (by omega)
    rw [← hx, ← hy, hn, hn'] at this
    exact this
  · cases h
noncomputable abbrev comLs : FuncId → Nat → Option LoopF := ltab [(13, 250, loopF Try.prog hint 13 0 comG)]
theorem comLs_ok : LoopsOK Try.prog hint (acall Try.prog hint (ovrOf (tabC fitB weightG))) comLs := ltab_cons (by kernel_rfl) com_loop ltab_nil
theorem com_call (nl : Option Bool) (cl : Bool) (z : Nat) (xs : List IV) (nl' : Option Bool) (cl' : Bool) (z' : Nat) (ys : List IV) : callK Try.prog hint (tabC fitB weightG) comLs 30 13 [.fsl nl cl z xs, .fsl nl' cl' z' ys] [] (fun v T => some (v, T)) =
  (bif okRow z xs && okRow z' ys then
     bif !fitB xs ys then some (IV.tup [IV.int IntKind.i64 (0 : Int), IV.int IntKind.i64 (1 : Int)], [])
     else
       bif (↑xs.length : Int) == (0 : Int) then
         some (IV.tup [IV.int IntKind.i64 (0 : Int), IV.int IntKind.i64 (4 : Int)], [])
       else
         bif
             comT z xs z' ys &&
               decide
                 ((0 : Int) = (0 : Int) ∧
                   (0 : Int) = (0 : Int) ∧ (↑xs.length : Int) = (↑xs.length : Int) ∧ (0 : Int) = (0 : Int)) then
           bif decide (comA (toInts ys) xs.length = (0 : Int)) then none
           else
             bif decide (comA (toInts ys) xs.length = (0 : Int)) then none
             else
               bif decide ((comS (toInts xs) (toInts ys) xs.length).tmod (comA (toInts ys) xs.length) < (0 : Int)) then
                 some
                   (IV.tup
                       [IV.int IntKind.i64
                           (IntKind.i64.wrap
                             (IntKind.i64.wrap
                                 ((comS (toInts xs) (toInts ys) xs.length).tdiv (comA (toInts ys) xs.length)) -
                               (1 : Int))),
                         IV.int IntKind.i64 (0 : Int)],
                     [])
               else
                 some
                   (IV.tup
                       [IV.int IntKind.i64
                           (IntKind.i64.wrap ((comS (toInts xs) (toInts ys) xs.length).tdiv (comA (toInts ys) xs.length))),
                         IV.int IntKind.i64 (0 : Int)],
                     [])
         else none
   else none) := by kernel_rfl

/-! ### Combine's answer -/
def combV (xs ys : List IV) : Int := if fitB xs ys = true ∧ xs ≠ [] then comS (toInts xs) (toInts ys) xs.length / comA (toInts ys) xs.length else 0
def combE (xs ys : List IV) : Int := if fitB xs ys = true then (if xs = [] then 4 else 0) else 1
def combF : SpecF := fun xs T => match xs, T with
  | [.fsl nl cl z xs, .fsl nl' cl' z' ys], [] => [(okRow z xs && okRow z' ys, .tup [.int .i64 (combV xs ys), .int .i64 (combE xs ys)], [])]
  | _, _ => []
theorem floor_of (s a : Int) (ha : 0 < a) : (if s.tmod a < 0 then s.tdiv a - 1 else s.tdiv a) = s / a := by
  have h1 := Int.mul_tdiv_add_tmod s a
  have h2 := Int.mul_ediv_add_emod s a
  have h3 := Int.emod_nonneg s (show a ≠ 0 by omega)
  have h4 := Int.emod_lt_of_pos s ha
  rcases Int.lt_or_le s 0 with hs | hs
  · have b1 : -a < s.tmod a := by rw [tmod_pos _ ha, if_neg (by omega)]; have := Int.emod_lt_of_pos (-s) ha; omega
    have b2 : s.tmod a ≤ 0 := by rw [tmod_pos _ ha, if_neg (by omega)]; have := Int.emod_nonneg (-s) (show a ≠ 0 by omega); omega
    split
    · -- s = a * q + r, -a < r < 0
      have : a * (s / a - (s.tdiv a - 1)) = s.tmod a + a - s % a := by rw [Int.mul_sub, Int.mul_sub]; omega
      have hq : s / a - (s.tdiv a - 1) = 0 := by
        generalize s / a - (s.tdiv a - 1) = d at this
        rcases Int.lt_trichotomy d 0 with h | h | h
        · have := Int.mul_le_mul_of_nonneg_left (show d ≤ -1 by omega) (show 0 ≤ a by omega); omega
        · exact h
        · have := Int.mul_le_mul_of_nonneg_left (show 1 ≤ d by omega) (show 0 ≤ a by omega); omega
      omega
    · have hr : s.tmod a = 0 := by omega
      have : a * (s / a - s.tdiv a) = - (s % a) := by rw [Int.mul_sub]; omega
      have hq : s / a - s.tdiv a = 0 := by
        generalize s / a - s.tdiv a = d at this
        rcases Int.lt_trichotomy d 0 with h | h | h
        · have := Int.mul_le_mul_of_nonneg_left (show d ≤ -1 by omega) (show 0 ≤ a by omega); omega
        · exact h
        · have := Int.mul_le_mul_of_nonneg_left (show 1 ≤ d by omega) (show 0 ≤ a by omega); omega
      omega
  · have e1 : s.tdiv a = s / a := Int.tdiv_eq_ediv_of_nonneg hs
    have e2 : s.tmod a = s % a := Int.tmod_eq_emod_of_nonneg hs
    rw [e1, e2, if_neg (by omega)]
theorem div_bound {s a : Int} (ha : 1 ≤ a) (h1 : -4611686018427387904 ≤ s) (h2 : s ≤ 4611686018427387904) : -4611686018427387904 ≤ s / a ∧ s / a ≤ 4611686018427387904 := by
  constructor
  · rw [Int.le_ediv_iff_mul_le (by omega)]
    have := Int.mul_le_mul_of_nonneg_left ha (show (0 : Int) ≤ 4611686018427387904 by decide)
    omega
  · refine Int.ediv_le_of_le_mul (by omega) ?_
    have := Int.mul_le_mul_of_nonneg_left ha (show (0 : Int) ≤ 4611686018427387904 by decide)
    omega
theorem tdiv_bound {s a : Int} (ha : 1 ≤ a) (h1 : -4611686018427387904 ≤ s) (h2 : s ≤ 4611686018427387904) : -4611686018427387905 ≤ s.tdiv a ∧ s.tdiv a ≤ 4611686018427387905 := by
  have := floor_of s a (by omega)
  have := div_bound ha h1 h2
  split at * <;> omega

theorem comb_known : Known Try.prog hint 13 combF := by
  refine known_of fits (spec := tabC fitB weightG) (tab_cons fit_known (tab_cons weight_known tab_nil)) comLs_ok ?_
  intro xs T v T1 h
  unfold combF at h
  split at h
  · rename_i nl cl z xs nl' cl' z' ys
    simp only [List.mem_cons, List.not_mem_nil, or_false, Prod.mk.injEq] at h
    obtain ⟨h1, rfl, rfl⟩ := h
    refine ⟨30, (com_call nl cl z xs nl' cl' z' ys).trans ?_⟩
    have h1 := h1.symm
    cases hf : fitB xs ys with
    | false => simp [h1, hf, combV, combE]
    | true =>
      have hp := fitB_p hf
      by_cases hx : xs = []
      · subst hx
        simp [h1, combV, combE, hf]
      · have hl : xs.length ≠ 0 := by simpa using hx
        have hn : xs.length = (toInts xs).length := by simp [toInts]
        have hs := hp.sum (n := xs.length) (by omega)
        have ha := hp.all (n := xs.length) (by omega)
        have d1 : ((xs.length : Int) == 0) = false := by simp; omega
        have d2 : decide (comA (toInts ys) xs.length = 0) = false := by simp; omega
        have ht : comT z xs z' ys = true := by simp [comT, h1, hf]
        have hfl := floor_of (comS (toInts xs) (toInts ys) xs.length) (comA (toInts ys) xs.length) (by omega)
        have tb := tdiv_bound (s := comS (toInts xs) (toInts ys) xs.length) (a := comA (toInts ys) xs.length) (by omega) hs.1 hs.2
        simp only [h1, d1, d2, ht, Bool.not_true, cond_true, cond_false, decide_true, Bool.and_self, and_self, combV, combE, hf, hx, ne_eq, not_false_eq_true, if_true, if_false]
        rw [← hfl]
        cases hc : decide ((comS (toInts xs) (toInts ys) xs.length).tmod (comA (toInts ys) xs.length) < 0) <;> simp only [decide_eq_false_iff_not, decide_eq_true_eq] at hc
        · have e : IntKind.i64.wrap ((comS (toInts xs) (toInts ys) xs.length).tdiv (comA (toInts ys) xs.length)) = (comS (toInts xs) (toInts ys) xs.length).tdiv (comA (toInts ys) xs.length) := by rw [wrap_i64]; omega
          rw [if_neg hc, e]
          rfl
        · have e : IntKind.i64.wrap (IntKind.i64.wrap ((comS (toInts xs) (toInts ys) xs.length).tdiv (comA (toInts ys) xs.length)) - 1) = (comS (toInts xs) (toInts ys) xs.length).tdiv (comA (toInts ys) xs.length) - 1 := by simp only [wrap_i64]; omega
          rw [if_pos hc, e]
          rfl
  · cases h
end Go.Proofs.Ytfcedalbamafiaa
