/- Numbers are read: what the given program does. It bears no condition. -/
import Derived.Test.YtgbddcdpbgaojaaAvE
namespace Go.Proofs.Ytgbddcdpbgaojaa
open Go Go.Im
set_option linter.unusedVariables false
set_option linter.unusedSimpArgs false

def intP (q : Int → Bool) (p : Int → Int) : SpecF := fun xs T => match xs, T with
  | [.int .i64 n], [] => [(q n, .int .i64 (p n), [])]
  | _, _ => []
def getP (c : List IV → Bool) (g : List IV → Int) : SpecF := fun xs T => match xs, T with
  | [.fsl nl cl 1 xs], [] => [(c xs, .int .u64 (g xs), [])]
  | _, _ => []
def getL (c : Int → List IV → Int → Int → Bool) (g : List IV → Int) : LiveF := fun vs bx => match vs, bx with
  | [.int .u64 n, .fsl nl cl 1 xs, .int .i64 len, .int .i64 i], [] => [(c n xs len i, .exit 0, [.int .u64 (g xs), .fsl nl cl 1 xs, .int .i64 len, .int .i64 len], [])]
  | _, _ => []
def cloneP (c : Nat → List IV → Bool) : SpecF := fun xs T => match xs, T with
  | [.fsl nl cl z l], [] => [(c z l, .fsl none false 1 l, [])]
  | _, _ => []
def cloneC (z : Nat) (l : List IV) : Bool := decide ((z = 1 ∨ l.length = 0) ∧ l.length ≤ 100000)
theorem pad_all (n : Int) : C (tab []) 52 [.int .i64 n] = (some (IV.int .i64 (IntKind.i64.wrap (IntKind.i64.wrap ((IntKind.i64.wrap (n + (3 : Int))).tdiv (4 : Int)) * (4 : Int))), [])) := by kernel_rfl
theorem get_in (n len i : Int) (nl : Option Bool) (cl : Bool) (z : Nat) (xs : List IV) : Rd (tab []) 0 42 58 (Sx 42 [.int .u64 n, .fsl nl cl z xs, .int .i64 len, .int .i64 i] []) = (bif decide (i < len) then bif decide (z = (1 : Nat) ∧ (0 : Int) ≤ i ∧ i < (↑xs.length : Int)) then bif isOf (LT.i IntKind.u8) (nthD (nthD xs i.toNat).cells (0 : Nat)) then some (Ex.normal, Sx (42 : Nat) [IV.int .u64 (ibits BinOp.or IntKind.u64 (IntKind.u64.wrap (n * (2 : Int) ^ (8 : Nat))) (IntKind.u64.wrap (intOf (nthD (nthD xs i.toNat).cells (0 : Nat))))), IV.fsl nl cl z xs, IV.int .i64 len, IV.int .i64 (IntKind.i64.wrap (i + (1 : Int)))] []) else none else none else some (Ex.exit (nat_lit 0), Sx (42 : Nat) [IV.int .u64 n, IV.fsl nl cl z xs, IV.int .i64 len, IV.int .i64 i] [])) := by kernel_rfl
theorem get_all (nl : Option Bool) (cl : Bool) (z : Nat) (xs : List IV) (c : Int → List IV → Int → Int → Bool) (g : List IV → Int) : Cb (tab []) (ltab [(42, 58, LF 42 0 (getL c g))]) 42 [.fsl nl cl 1 xs] [] = (bif c (0 : Int) xs (↑xs.length : Int) (0 : Int) then some (IV.int .u64 (g xs), []) else none) := by kernel_rfl
theorem cl1 (cl : Bool) (z : Nat) : C (tab []) 45 [.fsl (some true) cl z []] = (some (IV.fsl (some true) true (nat_lit 0) [], [])) := by kernel_rfl
theorem cl2 (cl : Bool) (z : Nat) (l : List IV) : C (tab []) 45 [.fsl (some false) cl z l] = (bif decide (z = (1 : Nat) ∨ l.length = (0 : Nat)) then bif decide (((0 : Nat) + l.length) * (1 : Nat) ≤ roomB ∧ (0 : Nat) + l.length ≤ maxLen) then some (IV.osl (nat_lit 0) (nat_lit 0), [Blk.row (nat_lit 0) false (nat_lit 1) l]) else none else none) := by kernel_rfl
end Go.Proofs.Ytgbddcdpbgaojaa
/- Numbers are read: what is proved of the given program. It bears no condition. -/
namespace Go.Proofs.Ytgbddcdpbgaojaa
open Go Go.Im
set_option linter.unusedVariables false
set_option linter.unusedSimpArgs false

noncomputable abbrev PCall := acall Try.prog hint (ovrOf (tab []))
/-- How many bytes fill up. -/
def fillN (n : Nat) : Nat := (4 - n % 4) % 4
theorem fillN_lt (n : Nat) : fillN n < 4 := Nat.mod_lt _ (by decide)
def smallB (n : Int) : Bool := decide (0 ≤ n ∧ n ≤ 100000)
theorem smallB_t {n : Nat} (h : n ≤ 100000) : smallB (n : Int) = true := by simp only [smallB, decide_eq_true_eq]; omega
def padG (n : Int) : Int := ((n.toNat + fillN n.toNat : Nat) : Int)
theorem padG_nat (n : Nat) : padG (n : Int) = ((n + fillN n : Nat) : Int) := rfl
theorem pad_known : Known Try.prog hint 52 (intP smallB padG) := by
  refine known_of fits (spec := tab []) tab_nil loops_none ?_
  (intro xs T v T1 h; unfold intP smallB padG at h; split at h; rotate_left; · cases h)
  rename_i n
  (simp only [List.mem_cons, List.not_mem_nil, or_false, Prod.mk.injEq, Bool.true_eq, Bool.and_eq_true, decide_eq_true_eq] at h; obtain ⟨h1, rfl, rfl⟩ := h)
  refine ⟨30, (pad_all _).trans ?_⟩
  congr 3
  simp only [wrap_i64, fillN]
  rw [Int.tdiv_eq_ediv_of_nonneg (by omega)]
  omega
/-- A number of bytes. -/
def getFC (xs : List IV) : Bool := decide (xs.length ≤ 8) && okB xs
def getFG (xs : List IV) : Int := ((numL (toBytes xs) : Nat) : Int)
theorem get_run {nl : Option Bool} {cl : Bool} {xs : List UInt8} (hx : xs.length ≤ 8) : ∀ (j i : Nat), i + j = xs.length →
    Runs Try.prog hint PCall 0 (hint.kp 42) (loopAt Try.prog 42 58) (Sx 42 [.int .u64 ((numL (xs.take i) : Nat) : Int), .fsl nl cl 1 (u8s xs), .int .i64 (xs.length : Int), .int .i64 (i : Int)] []) (.exit 0)
      (Sx 42 [.int .u64 ((numL xs : Nat) : Int), .fsl nl cl 1 (u8s xs), .int .i64 (xs.length : Int), .int .i64 (xs.length : Int)] [])
  | 0, i, h => by
    refine Runs.last (n := 30) (ls := fun _ _ => none) loops_none inner0 (by simp) ((get_in ..).trans ?_)
    rw [bif_f (by omega), show i = xs.length by omega, List.take_length]
  | j + 1, i, h => by
    have hi : i < xs.length := by omega
    refine Runs.step (n := 30) (ls := fun _ _ => none) loops_none inner0 ((get_in ..).trans ?_) (get_run hx j (i + 1) (by omega))
    have w : IntKind.i64.wrap ((i : Int) + 1) = ((i + 1 : Nat) : Int) := by rw [wrap_i64]; omega
    simp only [u8s_len, Int.toNat_natCast, w]
    rw [u8s_nth hi, cell_int, isOf_int, intOf_int, cond_true, bif_t (show (i : Int) < xs.length by omega)]
    rw [bif_t (by (first | omega | (simp only [true_and, and_true]; omega) | ((simp only [List.length_append, List.length_cons, List.length_nil, List.length_replicate, List.length_map, u8s_len, be_len, roomB_nat, roomB_val, maxLen_val, Nat.mul_one] at *); omega) | (simp only [true_and, and_true]; (simp only [List.length_append, List.length_cons, List.length_nil, List.length_replicate, List.length_map, u8s_len, be_len, roomB_nat, roomB_val, maxLen_val, Nat.mul_one] at *); omega)))]
    have hb := (xs.getD i 0).toNat_lt
    have hp : numL (xs.take i) < 256 ^ 7 := Nat.lt_of_lt_of_le (numL_lt _) (Nat.pow_le_pow_right (by decide) (by simp; omega))
    have e256 : (256 : Nat) ^ 7 = 72057594037927936 := by decide
    rw [e256] at hp
    have w1 : IntKind.u64.wrap (((numL (xs.take i) : Nat) : Int) * 2 ^ 8) = ((numL (xs.take i) * 2 ^ 8 : Nat) : Int) := by
      rw [wrap_u64, show (2 : Int) ^ 8 = 256 from rfl, show (2 : Nat) ^ 8 = 256 from rfl]; omega
    have w2 : IntKind.u64.wrap ((xs.getD i 0).toNat : Int) = ((xs.getD i 0).toNat : Int) := wrap_u64_id (by omega) (by omega)
    rw [w1, w2, or_u64 (k := 8) (by omega) (by omega)]
    have e : xs.take (i + 1) = xs.take i ++ [xs.getD i 0] := by
      rw [List.take_succ_eq_append_getElem hi, List.getD_eq_getElem?_getD, List.getElem?_eq_getElem hi]; rfl
    rw [e, numL_snoc]
theorem get_known : Known Try.prog hint 42 (getP getFC getFG) := by
  refine known_of fits (spec := tab []) tab_nil (ls := ltab [(42, 58, LF 42 0 (getL (fun n xs len i => decide (xs.length ≤ 8 ∧ len = xs.length ∧ n = 0 ∧ i = 0) && okB xs) getFG))]) (ltab_cons (by kernel_rfl) (loopF_ok ?_) ltab_nil) ?_
  · (intro vs bx e vs' bx' h; unfold getL getFG at h; split at h; rotate_left; · cases h)
    rename_i n nl cl xs len i
    (simp only [List.mem_cons, List.not_mem_nil, or_false, Prod.mk.injEq, Bool.true_eq, Bool.and_eq_true, decide_eq_true_eq] at h; obtain ⟨h1, rfl, rfl, rfl⟩ := h)
    obtain ⟨⟨h1, rfl, rfl, rfl⟩, h2⟩ := h1
    have e := okB_eq h2
    generalize toBytes xs = bs at e
    subst e
    rw [u8s_len] at h1 ⊢
    exact get_run (nl := nl) (cl := cl) h1 bs.length 0 (by omega)
  (intro xs T v T1 h; unfold getP getFC at h; split at h; rotate_left; · cases h)
  rename_i nl cl xs
  (simp only [List.mem_cons, List.not_mem_nil, or_false, Prod.mk.injEq, Bool.true_eq, Bool.and_eq_true, decide_eq_true_eq] at h; obtain ⟨h1, rfl, rfl⟩ := h)
  refine ⟨30, (get_all nl cl 1 xs _ _).trans ?_⟩
  have e : (decide (xs.length ≤ 8 ∧ ((xs.length : Nat) : Int) = xs.length ∧ (0 : Int) = 0 ∧ (0 : Int) = 0) && okB xs) = true := by rw [h1.2]; simp [h1.1]
  exact (congrArg (fun c => cond c _ _) e)
end Go.Proofs.Ytgbddcdpbgaojaa
/- Packets: what the given program does with them. It bears no condition. -/
-- FOLD $ <= { le := $.le, ve := $.ve, mo := $.mo, st := $.st, po := $.po, pr := $.pr, de := $.de, di := $.di, ri := $.ri, rf := $.rf, og := $.og, rc := $.rc, xm := $.xm, n1 := $.n1, c1 := $.c1, z1 := $.z1, es := $.es, ha := $.ha, ky := $.ky, n2 := $.n2, c2 := $.c2, z2 := $.z2, su := $.su }
-- FOLD $.cells <= [IV.int IntKind.i64 $.le, IV.int IntKind.i64 $.ve, IV.int IntKind.i64 $.mo, IV.int IntKind.i64 $.st, IV.int IntKind.i64 $.po, IV.int IntKind.i64 $.pr, IV.int IntKind.u32 $.de, IV.int IntKind.u32 $.di, IV.int IntKind.u32 $.ri, IV.int IntKind.u64 $.rf, IV.int IntKind.u64 $.og, IV.int IntKind.u64 $.rc, IV.int IntKind.u64 $.xm, IV.fsl $.n1 $.c1 $.z1 $.es, IV.bool $.ha, IV.int IntKind.u32 $.ky, IV.fsl $.n2 $.c2 $.z2 $.su]
-- FOLD $.iv <= (IV.agg $.cells)
-- FOLD IV.agg ($.cells) <= IV.agg $.cells
-- FOLD (toX $) <= { a := intOf (nthD $.cells (0 : Nat)), b := boolOf (nthD $.cells (1 : Nat)), c := boolOf (nthD $.cells (2 : Nat)), d := intOf (nthD $.cells (3 : Nat)), ts := intOf (nthD $.cells (4 : Nat)), fs := intOf (nthD $.cells (5 : Nat)), n1 := nlOf (nthD $.cells (6 : Nat)), c1 := clOf (nthD $.cells (6 : Nat)), z1 := szOf (nthD $.cells (6 : Nat)), l1 := rowL (nthD $.cells (6 : Nat)), n2 := nlOf (nthD $.cells (7 : Nat)), c2 := clOf (nthD $.cells (7 : Nat)), z2 := szOf (nthD $.cells (7 : Nat)), l2 := rowL (nthD $.cells (7 : Nat)) }
-- FOLD $ <= { a := $.a, b := $.b, c := $.c, d := $.d, ts := $.ts, fs := $.fs, n1 := $.n1, c1 := $.c1, z1 := $.z1, l1 := $.l1, n2 := $.n2, c2 := $.c2, z2 := $.z2, l2 := $.l2 }
namespace Go.Proofs.Ytgbddcdpbgaojaa
open Go Go.Im
set_option linter.unusedVariables false
set_option linter.unusedSimpArgs false

/-- A field's value, and a packet's. -/
structure XV where
  (a : Int) (b c : Bool) (d ts fs : Int) (n1 : Option Bool) (c1 : Bool) (z1 : Nat) (l1 : List IV) (n2 : Option Bool) (c2 : Bool) (z2 : Nat) (l2 : List IV)
def XV.cells (x : XV) : List IV := [.int .i64 x.a, .bool x.b, .bool x.c, .int .i64 x.d, .int .u32 x.ts, .int .u32 x.fs, .fsl x.n1 x.c1 x.z1 x.l1, .fsl x.n2 x.c2 x.z2 x.l2]
def XV.iv (x : XV) : IV := .agg x.cells
structure PK where
  (le ve mo st po pr de di ri rf og rc xm : Int) (n1 : Option Bool) (c1 : Bool) (z1 : Nat) (es : List IV) (ha : Bool) (ky : Int) (n2 : Option Bool) (c2 : Bool) (z2 : Nat) (su : List IV)
def PK.cells (p : PK) : List IV := [.int .i64 p.le, .int .i64 p.ve, .int .i64 p.mo, .int .i64 p.st, .int .i64 p.po, .int .i64 p.pr, .int .u32 p.de, .int .u32 p.di, .int .u32 p.ri, .int .u64 p.rf, .int .u64 p.og, .int .u64 p.rc, .int .u64 p.xm,
  .fsl p.n1 p.c1 p.z1 p.es, .bool p.ha, .int .u32 p.ky, .fsl p.n2 p.c2 p.z2 p.su]
def PK.iv (p : PK) : IV := .agg p.cells

def toX (x : IV) : XV := ⟨intOf (nthD x.cells 0), boolOf (nthD x.cells 1), boolOf (nthD x.cells 2), intOf (nthD x.cells 3), intOf (nthD x.cells 4), intOf (nthD x.cells 5),
  nlOf (nthD x.cells 6), clOf (nthD x.cells 6), szOf (nthD x.cells 6), rowL (nthD x.cells 6), nlOf (nthD x.cells 7), clOf (nthD x.cells 7), szOf (nthD x.cells 7), rowL (nthD x.cells 7)⟩

end Go.Proofs.Ytgbddcdpbgaojaa
/- Packets: what is proved of the given program. It bears no condition. -/
namespace Go.Proofs.Ytgbddcdpbgaojaa
open Go Go.Im
set_option linter.unusedVariables false
set_option linter.unusedSimpArgs false
noncomputable section

/-! ### Fields -/
theorem x0 (x : XV) : nthD x.iv.cells 0 = .int .i64 x.a := Eq.trans rfl rfl
theorem x1 (x : XV) : nthD x.iv.cells 1 = .bool x.b := Eq.trans rfl rfl
theorem x2 (x : XV) : nthD x.iv.cells 2 = .bool x.c := Eq.trans rfl rfl
theorem x3 (x : XV) : nthD x.iv.cells 3 = .int .i64 x.d := Eq.trans rfl rfl
theorem x4 (x : XV) : nthD x.iv.cells 4 = .int .u32 x.ts := Eq.trans rfl rfl
theorem x5 (x : XV) : nthD x.iv.cells 5 = .int .u32 x.fs := Eq.trans rfl rfl
theorem x6 (x : XV) : nthD x.iv.cells 6 = .fsl x.n1 x.c1 x.z1 x.l1 := Eq.trans rfl rfl
theorem x7 (x : XV) : nthD x.iv.cells 7 = .fsl x.n2 x.c2 x.z2 x.l2 := Eq.trans rfl rfl
theorem x6' (x : XV) : nthD (x.iv.cells.drop 6) 0 = .fsl x.n1 x.c1 x.z1 x.l1 := Eq.trans rfl rfl
theorem xt (x : XV) : testAll ([LT.i IntKind.i64] ++ ([LT.b] ++ ([LT.b] ++ ([LT.i IntKind.i64] ++ ([LT.i IntKind.u32] ++ ([LT.i IntKind.u32] ++ ([LT.sl] ++ ([LT.sl] ++ [])))))))) 0 x.iv.cells = true := Eq.trans rfl rfl
theorem rowL_f (n : Option Bool) (c : Bool) (z : Nat) (l : List IV) : rowL (.fsl n c z l) = l := Eq.trans rfl rfl
theorem szOf_f (n : Option Bool) (c : Bool) (z : Nat) (l : List IV) : szOf (.fsl n c z l) = z := Eq.trans rfl rfl
theorem intOf_int' {k : IntKind} {n : Int} : intOf (.int k n) = n := Eq.trans rfl rfl
/-- What a field must be for all that is said of it. -/
def XV.ok (v : XV) : Bool := decide ((v.z1 = 1 ∨ v.l1.length = 0) ∧ (v.z2 = 1 ∨ v.l2.length = 0) ∧ v.l1.length ≤ 140737488355328 ∧ v.l2.length ≤ 140737488355328) && (okB v.l1 && okB v.l2)
def isX (x : IV) : Bool := match x with
  | .agg [.int .i64 _, .bool _, .bool _, .int .i64 _, .int .u32 _, .int .u32 _, .fsl .., .fsl ..] => (toX x).ok
  | _ => false
theorem isX_eq {x : IV} (h : isX x = true) : x = (toX x).iv ∧ (toX x).ok = true := by
  unfold isX at h
  split at h
  · exact ⟨rfl, h⟩
  · cases h
theorem isX_iv (v : XV) : isX v.iv = v.ok := rfl
def xsOf (es : List IV) : List XV := es.map toX
theorem xs_eq {es : List IV} (h : es.all isX = true) : es = (xsOf es).map XV.iv ∧ ∀ v ∈ xsOf es, v.ok = true := by
  induction es with
  | nil => exact ⟨rfl, fun _ h => by cases h⟩
  | cons x es ih =>
    simp only [List.all_cons, Bool.and_eq_true] at h
    obtain ⟨h1, h2⟩ := isX_eq h.1
    obtain ⟨h3, h4⟩ := ih h.2
    refine ⟨?_, ?_⟩
    · simp only [xsOf, List.map_cons] at h3 ⊢
      rw [← h1, ← h3]
    · intro v hv
      simp only [xsOf, List.map_cons, List.mem_cons] at hv
      rcases hv with rfl | hv
      · exact h2
      · exact h4 v hv
theorem ok_iff {v : XV} : v.ok = true ↔ ((v.z1 = 1 ∨ v.l1.length = 0) ∧ (v.z2 = 1 ∨ v.l2.length = 0) ∧ v.l1.length ≤ 140737488355328 ∧ v.l2.length ≤ 140737488355328) ∧ okB v.l1 = true ∧ okB v.l2 = true := by
  simp only [XV.ok, Bool.and_eq_true, decide_eq_true_eq]
theorem isBytes_ok {xs : List IV} (h : okB xs = true) : isBytes xs = true := by rw [okB_eq h]; exact isBytes_u8s _
/-- A packet's fields and sum are rows. -/
def PK.ok (p : PK) : Bool := decide ((p.z1 = 8 ∨ p.es.length = 0) ∧ (p.z2 = 1 ∨ p.su.length = 0) ∧ p.es.length ≤ 140737488355328 ∧ p.su.length ≤ 140737488355328) && (okB p.su && p.es.all isX)
def PK.xs (p : PK) : List XV := xsOf p.es
theorem clone_known : Known Try.prog hint 45 (cloneP cloneC) := by
  refine known_frz fits ?_
  intro xs T v T1 h
  unfold cloneP at h
  split at h
  · rename_i nl cl z l
    simp only [List.mem_cons, List.not_mem_nil, or_false, Prod.mk.injEq, Bool.true_eq, cloneC, decide_eq_true_eq] at h
    obtain ⟨⟨h1, h2⟩, rfl, rfl⟩ := h
    have hr : ∀ ys ∈ [[IV.fsl (some false) cl z l]], ∃ n v0 T2 v1 fr, callK Try.prog hint (tab []) (fun _ _ => none) n 45 ys [] (fun v T => some (v, T)) = some (v0, T2) ∧ frz T2 v0 = some (v1, fr) ∧ Wk v1 (.fsl none false 1 l) := by
      intro ys hy
      rw [List.mem_singleton] at hy
      subst hy
      refine ⟨30, .osl 0 0, [.row 0 false 1 l], .fsl none false 1 l, [0], (cl2 cl z l).trans ?_, rfl, ?_⟩
      · exact bif_step (decide_eq_true h1) (bif_step (decide_eq_true (by (simp only [List.length_append, List.length_cons, List.length_nil, List.length_replicate, List.length_map, u8s_len, be_len, roomB_nat, roomB_val, maxLen_val, Nat.mul_one] at *); omega)) rfl)
      · exact Wk.fsl (by rfl) (.inl rfl) (by simp) (.inl rfl)
    refine ⟨rfl, rfl, _, ?_, Splits.nil1, ?_⟩
    · split <;> simp
    intro ys hy
    split at hy
    · rename_i hl
      subst hl
      rcases List.mem_cons.1 hy with rfl | hy
      · refine ⟨noGd_of rfl, tab [], fun _ _ => none, tab_nil, loops_none, 30, .fsl (some true) true 0 [], [], .fsl (some true) true 0 [], [], (cl1 cl z).trans rfl, rfl, ?_⟩
        exact Wk.fsl rfl (.inl rfl) (by simp) (.inr rfl)
      · obtain ⟨n, v0, T2, v1, fr, q⟩ := hr ys hy
        rw [List.mem_singleton] at hy
        subst hy
        exact ⟨noGd_of rfl, tab [], fun _ _ => none, tab_nil, loops_none, n, v0, T2, v1, fr, q⟩
    · obtain ⟨n, v0, T2, v1, fr, q⟩ := hr ys hy
      rw [List.mem_singleton] at hy
      subst hy
      exact ⟨noGd_of rfl, tab [], fun _ _ => none, tab_nil, loops_none, n, v0, T2, v1, fr, q⟩
  · cases h
end
end Go.Proofs.Ytgbddcdpbgaojaa
