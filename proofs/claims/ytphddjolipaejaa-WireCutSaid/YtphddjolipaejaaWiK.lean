/- Packets are written: what is proved of the given program. It bears no condition. -/
import Derived.Test.YtphddjolipaejaaWiJ
namespace Go.Proofs.Ytphddjolipaejaa
open Go Go.Im
set_option linter.unusedVariables false
set_option linter.unusedSimpArgs false
noncomputable section

/-! ### First bytes -/
theorem or_field : ∀ (b c : Bool) (a : Fin 64), ibits .or .u8 (ibits .or .u8 (bif b then (128 : Int) else 0) (bif c then (64 : Int) else 0)) (IntKind.u8.wrap ((a.val : Nat) : Int)) = ((a.val : Nat) : Int) + (bif b then 128 else 0) + (bif c then 64 else 0) := by decide +kernel
theorem or_fst {v : XV} (h : 1 ≤ v.a ∧ v.a ≤ 63) : ibits .or .u8 (ibits .or .u8 (bif v.b then (128 : Int) else 0) (bif v.c then (64 : Int) else 0)) (IntKind.u8.wrap v.a) = fst8 v := by
  have := or_field v.b v.c ⟨v.a.toNat, by omega⟩
  rw [show (((⟨v.a.toNat, by omega⟩ : Fin 64).val : Nat) : Int) = v.a by simp; omega] at this
  exact this
def headN (p : PK) : Int := 64 * p.le + 32 + p.mo
theorem or_head : ∀ (l : Fin 4) (m : Fin 6), IntKind.u8.wrap (ibits .or .i64 (ibits .or .i64 (IntKind.i64.wrap (((l.val : Nat) : Int) * 2 ^ 6)) (IntKind.i64.wrap ((4 : Int) * 2 ^ 3))) ((m.val : Nat) : Int)) = 64 * ((l.val : Nat) : Int) + 32 + ((m.val : Nat) : Int) := by decide +kernel
theorem head_iff {p : PK} (h : p.headOK = true) : 0 ≤ p.le ∧ p.le ≤ 3 ∧ p.ve = 4 ∧ 1 ≤ p.mo ∧ p.mo ≤ 5 ∧ 0 ≤ p.st ∧ p.st ≤ 16 ∧ 0 ≤ p.po ∧ p.po ≤ 17 ∧ -128 ≤ p.pr ∧ p.pr ≤ 127 ∧ p.es.length ≤ 8 := by
  simpa only [PK.headOK, decide_eq_true_eq] using h
theorem or_headN {p : PK} (h : p.headOK = true) : IntKind.u8.wrap (ibits .or .i64 (ibits .or .i64 (IntKind.i64.wrap (p.le * (2 : Int) ^ (6 : Nat))) (IntKind.i64.wrap (p.ve * (2 : Int) ^ (3 : Nat)))) p.mo) = headN p := by
  have h := head_iff h
  have := or_head ⟨p.le.toNat, by omega⟩ ⟨p.mo.toNat, by omega⟩
  rw [show (((⟨p.le.toNat, by omega⟩ : Fin 4).val : Nat) : Int) = p.le by simp; omega, show (((⟨p.mo.toNat, by omega⟩ : Fin 6).val : Nat) : Int) = p.mo by simp; omega] at this
  rw [h.2.2.1]
  exact this
theorem sum_headN {p : PK} (h : p.headOK = true) : IntKind.u8.wrap (IntKind.i64.wrap (IntKind.i64.wrap (IntKind.i64.wrap (64 * p.le) + IntKind.i64.wrap (8 * p.ve)) + p.mo)) = headN p := by
  have h := head_iff h
  unfold headN
  rw [h.2.2.1, wrap_i64_id (n := 64 * p.le) (by omega) (by omega), wrap_i64_id (n := 8 * 4) (by omega) (by omega), wrap_i64_id (n := 64 * p.le + 8 * 4) (by omega) (by omega), wrap_i64_id (by omega) (by omega), wrap_u8_id (by omega) (by omega)]
  omega

/-! ### What is written -/
def headL (p : PK) : List IV := [.int .u8 (headN p), .int .u8 (IntKind.u8.wrap p.st), .int .u8 (IntKind.u8.wrap p.po), .int .u8 (IntKind.u8.wrap p.pr)]
def hdrL (p : PK) : List IV := headL p ++ u8s (be 4 (IntKind.u64.wrap p.de)) ++ u8s (be 4 (IntKind.u64.wrap p.di)) ++ u8s (be 4 (IntKind.u64.wrap p.ri)) ++ u8s (be 8 p.rf) ++ u8s (be 8 p.og) ++ u8s (be 8 p.rc) ++ u8s (be 8 p.xm)
theorem hdrL_len (p : PK) : (hdrL p).length = 48 := by simp [hdrL, headL, u8s_len, be_len]
def fieldsL (vs : List XV) : List IV := vs.flatMap fieldL
theorem fieldsL_len (vs : List XV) : (fieldsL vs).length = sizes vs := by
  induction vs with
  | nil => rfl
  | cons v vs ih => simp only [fieldsL, List.flatMap_cons, List.length_append, fieldL_len, sizes_cons] at ih ⊢; rw [ih]
def macsL (p : PK) : List IV := bif p.ha then macL p.ky p.su else []
def writeL (p : PK) : List IV := hdrL p ++ fieldsL p.xs ++ macsL p
theorem macsL_len (p : PK) : (macsL p).length = p.macN := by unfold macsL PK.macN; cases p.ha <;> simp [macL, u8s_len, be_len]
theorem writeL_len (p : PK) : (writeL p).length = p.tot := by
  simp only [writeL, List.length_append, hdrL_len, fieldsL_len, macsL_len, PK.tot]; omega
theorem putFG1 (n a : Int) (l : List IV) : putFG n [.int .u64 a] l = l ++ u8s (be n.toNat a) := by simp [putFG, toInts, intOf]
theorem putFG2 (n a b : Int) (l : List IV) : putFG n [.int .u64 a, .int .u64 b] l = l ++ u8s (be n.toNat a) ++ u8s (be n.toNat b) := by simp [putFG, toInts, intOf, u8s_app]
theorem putFG3 (n a b c : Int) (l : List IV) : putFG n [.int .u64 a, .int .u64 b, .int .u64 c] l = l ++ u8s (be n.toNat a) ++ u8s (be n.toNat b) ++ u8s (be n.toNat c) := by simp [putFG, toInts, intOf, u8s_app]
theorem putFG4 (n a b c d : Int) (l : List IV) : putFG n [.int .u64 a, .int .u64 b, .int .u64 c, .int .u64 d] l = l ++ u8s (be n.toNat a) ++ u8s (be n.toNat b) ++ u8s (be n.toNat c) ++ u8s (be n.toNat d) := by simp [putFG, toInts, intOf, u8s_app]
theorem putFC_t {n : Int} {xs l : List IV} (h : 0 ≤ n ∧ n ≤ 8 ∧ 1 ≤ xs.length ∧ xs.length ≤ 4 ∧ l.length ≤ 90000) (k : isInts .u64 xs = true) : putFC n xs l = true := by
  simp only [putFC, Bool.and_eq_true, decide_eq_true_eq]; exact ⟨h, k⟩

abbrev wTab : FuncId → Option SpecF := tab [(12, pkP PK.fine fun p => .int .i64 (rightG p)), (18, putP putFC putFG), (19, bitF), (20, xP .i64 xlight fun v => ((xsize v : Nat) : Int)), (21, dataP dataFC dataFG)]
theorem wTab_ok : ∀ f F, wTab f = some F → Known Try.prog hint f F := tab_cons right_known (tab_cons put_known (tab_cons bit_known (tab_cons size_known (tab_cons data_known tab_nil))))
theorem good_iff {v : XV} (h : goodX v = true) : 1 ≤ v.a ∧ v.a ≤ 63 ∧ 0 ≤ v.d ∧ v.d ≤ 65535 ∧ v.l1.length ≤ 2048 ∧ v.l2.length ≤ 2048 := by
  simpa only [goodX, decide_eq_true_eq] using h
theorem flat_fold : ∀ (vs : List XV) (l : List IV), vs.foldl (fun l v => l ++ fieldL v) l = l ++ fieldsL vs
  | [], l => by simp [fieldsL]
  | v :: vs, l => by rw [List.foldl_cons, flat_fold vs]; simp [fieldsL]
theorem w_runs {p : PK} {nl : Option Bool} {cl : Bool} {z : Nat} {vs : List XV} {l0 : List IV} (hz : z = 8 ∨ vs.length = 0) (hl : vs.length ≤ 20) (hok : ∀ v ∈ vs, v.ok = true) (hg : ∀ v ∈ vs, goodX v = true) (h0 : l0.length + sizes vs ≤ 10000) :
    EachOK Try.prog hint (acall Try.prog hint (ovrOf wTab)) 0 (hint.kp 10) (loopAt Try.prog 10 506) (Sx 10 [.ptr 0 0, .osl 1 0, .fsl nl cl z (vs.map XV.iv), .int .i64 (vs.length : Int), .int .i64 ((0 : Nat) : Int)] [.var false p.cells, .row 0 false 1 l0]) (.exit 0)
      (fun l : List IV => Sx 10 [.ptr 0 0, .osl 1 0, .fsl nl cl z (vs.map XV.iv), .int .i64 (vs.length : Int), .int .i64 (vs.length : Int)] [.var false p.cells, .row 0 false 1 l]) (foldE (fun _ (l : List IV) (v : XV) => .inl (l ++ fieldL v)) 0 l0 vs) := by
  refine runs_each (X := List IV) (l := vs) (n := 30) (ls := fun _ _ => none) loops_none inner0 (fun i l => Sx 10 [.ptr 0 0, .osl 1 0, .fsl nl cl z (vs.map XV.iv), .int .i64 (vs.length : Int), .int .i64 (i : Int)] [.var false p.cells, .row 0 false 1 l]) _
    (fun i l => l.length + sizes (vs.drop i) ≤ 10000) (e := .exit 0) (by simp) ?_ ?_ vs.length 0 l0 (by omega) (by simpa using h0)
  · intro i l hi hn
    rw [List.drop_eq_getElem_cons hi, sizes_cons] at hn
    have ho := ok_iff.1 (hok _ (List.getElem_mem hi))
    have hv := good_iff (hg _ (List.getElem_mem hi))
    have ht := (w_in p 0 vs.length i nl cl z (vs.map XV.iv) l PK.fine rightG xlight (fun v => ((xsize v : Nat) : Int)) putFC putFG dataFC dataFG)
    rw [Int.toNat_natCast, nthD_mapf hi] at ht
    generalize vs[i] = v at *
    have hf := fieldL_len v
    revert ht
    (simp only [x0, x1, x2, x3, x4, x5, x6, x7, x6', x7', xt, intOf_int', boolOf_b, rowL_f, nlOf_f, clOf_f, szOf_f, isOf_f, isOf_int, toX_iv, cond_true, cond_false])
    rw [or_fst ⟨hv.1, hv.2.1⟩, wu_nat (by omega)]
    simp only [putFG2, putFG3]
    intro ht
    refine .inl ⟨_, rfl, ht.trans ?_, by rw [List.length_append, hf]; omega⟩
    have hx : xlight v = true := by simp only [xlight, decide_eq_true_eq]; omega
    have h1 := fillN_lt v.l1.length
    have hxs : xsize v = 24 + (v.l1.length + fillN v.l1.length) + (v.l2.length + fillN v.l2.length) := rfl
    (refine bif_step (by first | assumption | exact decide_eq_true (by (first | omega | (simp only [true_and, and_true]; omega) | ((simp only [List.length_append, List.length_cons, List.length_nil, List.length_replicate, List.length_map, u8s_len, be_len, roomB_nat, roomB_val, maxLen_val, Nat.mul_one] at *); omega) | (simp only [true_and, and_true]; (simp only [List.length_append, List.length_cons, List.length_nil, List.length_replicate, List.length_map, u8s_len, be_len, roomB_nat, roomB_val, maxLen_val, Nat.mul_one] at *); omega)))) ?_)
    refine bif_step (decide_eq_true (by simp only [List.length_map]; omega)) ?_
    (refine bif_step (decide_eq_true (by (simp only [List.length_append, List.length_cons, List.length_nil, List.length_replicate, u8s_len, be_len, dataL_len, byl2, byl4, byl8, roomB_nat, maxLen_val, Nat.mul_one, true_and, and_true, true_or, or_true, eq_self, Nat.zero_add] <;> omega))) ?_)
    refine bif_step hx (bif_step (putFC_t (by (simp only [List.length_append, List.length_cons, List.length_nil, List.length_replicate, u8s_len, be_len, dataL_len, byl2, byl4, byl8, roomB_nat, maxLen_val, Nat.mul_one, true_and, and_true, true_or, or_true, eq_self, Nat.zero_add] <;> omega)) rfl) (bif_step (putFC_t ?_ rfl) (bif_step ?_ (bif_step ?_ ?_))))
    · (simp only [List.length_append, List.length_cons, List.length_nil, List.length_replicate, u8s_len, be_len, dataL_len, byl2, byl4, byl8, roomB_nat, maxLen_val, Nat.mul_one, true_and, and_true, true_or, or_true, eq_self, Nat.zero_add] <;> omega)
    · exact decide_eq_true (by simp only [List.length_append, List.length_cons, List.length_nil, u8s_len, be_len]; omega)
    · exact decide_eq_true (by simp only [dataFG, List.length_append, List.length_cons, List.length_nil, u8s_len, be_len, dataL_len]; omega)
    rw [wadd1 (by omega)]
    have e0 : u8s (be (2 : Int).toNat 0) = [.int .u8 0, .int .u8 0] := rfl
    have e : dataFG v.l2 (dataFG v.l1 (l ++ [IV.int .u8 (fst8 v), .int .u8 0] ++ u8s (be (2 : Int).toNat (xsize v : Nat)) ++ u8s (be (2 : Int).toNat (IntKind.u64.wrap v.d)) ++ u8s (be (2 : Int).toNat 0) ++ u8s (be (4 : Int).toNat (IntKind.u64.wrap v.ts)) ++ u8s (be (4 : Int).toNat (IntKind.u64.wrap v.fs)))) = l ++ fieldL v := by
      rw [e0]
      simp only [dataFG, fieldL, List.append_assoc]
      rfl
    rw [e]
  · intro l hn
    refine (w_in p 0 vs.length vs.length nl cl z (vs.map XV.iv) l PK.fine rightG xlight (fun v => ((xsize v : Nat) : Int)) putFC putFG dataFC dataFG).trans ?_
    (refine bif_stepF (by first | assumption | exact decide_eq_false (by (first | omega | (simp only [true_and, and_true]; omega) | ((simp only [List.length_append, List.length_cons, List.length_nil, List.length_replicate, List.length_map, u8s_len, be_len, roomB_nat, roomB_val, maxLen_val, Nat.mul_one] at *); omega) | (simp only [true_and, and_true]; (simp only [List.length_append, List.length_cons, List.length_nil, List.length_replicate, List.length_map, u8s_len, be_len, roomB_nat, roomB_val, maxLen_val, Nat.mul_one] at *); omega)))) ?_)
    rfl
def wD (z : Nat) (es : List IV) (len i : Int) (l : List IV) : Bool := decide ((z = 8 ∨ es.length = 0) ∧ es.length ≤ 20 ∧ len = es.length ∧ i = 0 ∧ l.length + sizes (xsOf es) ≤ 10000) && (es.all isX && (xsOf es).all goodX)
def wG (es l : List IV) : List IV := l ++ fieldsL (xsOf es)
theorem w_ls : LoopsOK Try.prog hint (acall Try.prog hint (ovrOf wTab)) (ltab [(10, 506, LF 10 0 (wL wD wG))]) := by
  refine ltab_cons (by kernel_rfl) (loopF_ok ?_) ltab_nil
  intro vs bx e vs' bx' h
  obtain ⟨nl, cl, z, es, len, i, p, l, rfl, rfl, h1, rfl, rfl, rfl⟩ := wL_mem h
  simp only [wD, Bool.and_eq_true, decide_eq_true_eq] at h1
  obtain ⟨⟨h1, h2, rfl, rfl, h3⟩, h4, h5⟩ := h1
  obtain ⟨hx, ho⟩ := xs_eq h4
  unfold wG
  generalize xsOf es = vs at *
  subst hx
  rw [List.length_map] at h1 h2 ⊢
  have := w_runs (p := p) (nl := nl) (cl := cl) h1 h2 ho (List.all_eq_true.1 h5) h3
  rw [foldE_inl (g := fun l v => l ++ fieldL v) (fun _ _ _ => rfl), flat_fold] at this
  exact this
theorem right_iff {p : PK} (h : p.right = true) : p.headOK = true ∧ (∀ v ∈ p.xs, goodX v = true) ∧ p.macOK = true ∧ p.tot ≤ 8192 := by
  simpa only [PK.right, Bool.and_eq_true, decide_eq_true_eq, and_assoc, List.all_eq_true] using h
theorem write_known : Known Try.prog hint 10 (wrP (fun p => p.fine && p.right) (fun p => p.fine && !p.right) writeL) := by
  refine known_of fits (spec := wTab) wTab_ok w_ls ?_
  intro xs T v T1 h
  obtain ⟨p, rfl, rfl, h0⟩ := wrP_mem h
  refine ⟨30, (w_all p wD wG PK.fine rightG xlight (fun v => ((xsize v : Nat) : Int)) putFC putFG dataFC dataFG).trans ?_⟩
  rcases h0 with ⟨h1, rfl, rfl⟩ | ⟨h1, rfl, rfl⟩
  · simp only [Bool.and_eq_true] at h1
    obtain ⟨hp, hr⟩ := h1
    obtain ⟨k1, k2, k3, k4⟩ := fine_iff hp
    have hk := (pok_iff.1 k1)
    obtain ⟨r1, r2, r3, r4⟩ := right_iff hr
    have e0 : rightG p = 0 := by simp [rightG, hr]
    have hd : (hdrL p).length = 48 := hdrL_len p
    have hm : p.macN ≤ p.tot := by unfold PK.tot; omega
    have ht : p.tot = 48 + p.macN + sizes p.xs := rfl
    refine bif_step hp (bif_stepF (by rw [e0]; rfl) ?_)
    rw [or_headN r1]
    simp only [putFG1, putFG3, putFG4]
    have eh : [IV.int .u8 (headN p), .int .u8 (IntKind.u8.wrap p.st), .int .u8 (IntKind.u8.wrap p.po), .int .u8 (IntKind.u8.wrap p.pr)] ++ u8s (be (4 : Int).toNat (IntKind.u64.wrap p.de)) ++ u8s (be (4 : Int).toNat (IntKind.u64.wrap p.di)) ++ u8s (be (4 : Int).toNat (IntKind.u64.wrap p.ri)) ++ u8s (be (8 : Int).toNat p.rf) ++ u8s (be (8 : Int).toNat p.og) ++ u8s (be (8 : Int).toNat p.rc) ++ u8s (be (8 : Int).toNat p.xm) = hdrL p := rfl
    refine bif_step (putFC_t (by (simp only [List.length_append, List.length_cons, List.length_nil, List.length_replicate, u8s_len, be_len, dataL_len, byl2, byl4, byl8, roomB_nat, maxLen_val, Nat.mul_one, true_and, and_true, true_or, or_true, eq_self, Nat.zero_add] <;> omega)) rfl) (bif_step (putFC_t (by (simp only [List.length_append, List.length_cons, List.length_nil, List.length_replicate, u8s_len, be_len, dataL_len, byl2, byl4, byl8, roomB_nat, maxLen_val, Nat.mul_one, true_and, and_true, true_or, or_true, eq_self, Nat.zero_add] <;> omega)) rfl) ?_)
    rw [eh]
    have hwd : wD p.z1 p.es (p.es.length : Int) 0 (hdrL p) = true := by
      simp only [wD, Bool.and_eq_true, decide_eq_true_eq, List.all_eq_true]
      refine ⟨⟨hk.1.1, k2, trivial, trivial, ?_⟩, List.all_eq_true.1 hk.2.2, r2⟩
      show (hdrL p).length + sizes p.xs ≤ 10000
      omega
    have hg : wG p.es (hdrL p) = hdrL p ++ fieldsL p.xs := rfl
    refine bif_step hwd ?_
    rw [hg]
    have hl : (hdrL p ++ fieldsL p.xs).length = 48 + sizes p.xs := by rw [List.length_append, hd, fieldsL_len]
    cases ha : p.ha
    · refine bif_stepF rfl ?_
      simp [writeL, macsL, ha]
    · have hmn : p.macN = 4 + p.su.length := by simp [PK.macN, ha]
      refine bif_step rfl (bif_step (putFC_t ?_ rfl) (bif_step (decide_eq_true hk.1.2.1) (bif_step (decide_eq_true ?_) ?_)))
      · rw [hl]; simp only [List.length_cons, List.length_nil]; omega
      · rw [List.length_append, hl, u8s_len, be_len, roomB_nat, maxLen_val]; simp only [Int.reduceToNat]; omega
      · have e4 : (4 : Int).toNat = 4 := rfl
        simp only [writeL, macsL, ha, macL, cond_true, List.append_assoc, e4]
  · simp only [Bool.and_eq_true, Bool.not_eq_true'] at h1
    have e0 : rightG p = 3 := by simp [rightG, h1.2]
    refine bif_step h1.1 (bif_step (by rw [e0]; rfl) ?_)
    rw [e0]
end
end Go.Proofs.Ytphddjolipaejaa
