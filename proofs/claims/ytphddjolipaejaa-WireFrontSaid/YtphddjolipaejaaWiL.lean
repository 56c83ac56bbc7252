/- Packets are written, as the document says: what is proved of the given program. It bears no condition. -/
import Derived.Test.YtphddjolipaejaaWiK
namespace Go.Proofs.Ytphddjolipaejaa
open Go Go.Im
set_option linter.unusedVariables false
set_option linter.unusedSimpArgs false
noncomputable section

abbrev rwTab : FuncId → Option SpecF := tab [(13, pkP PK.fine fun p => .int .i64 (rightG p)), (22, byP byFC byFG), (23, xRowP fieldC fieldL), (24, macP macC1 macC2 macL)]
theorem rwTab_ok : ∀ f F, rwTab f = some F → Known Try.prog hint f F := tab_cons rright_known (tab_cons by_known (tab_cons field_known (tab_cons mac_known tab_nil)))
theorem rw_runs {p : PK} {e : Int} {l0 : List IV} (hp : p.ok = true) (hl : p.es.length ≤ 20) (hg : ∀ v ∈ p.xs, goodX v = true) (h0 : l0.length + sizes p.xs ≤ 10000) :
    EachOK Try.prog hint (acall Try.prog hint (ovrOf rwTab)) 0 (hint.kp 11) (loopAt Try.prog 11 65530) (Sx 11 [.ptr 0 0, .int .i64 e, .osl 1 0, .int .i64 ((0 : Nat) : Int)] [.var false p.cells, .row 0 false 1 l0]) (.exit 0)
      (fun l : List IV => Sx 11 [.ptr 0 0, .int .i64 e, .osl 1 0, .int .i64 (p.es.length : Int)] [.var false p.cells, .row 0 false 1 l]) (foldE (fun _ (l : List IV) (v : XV) => .inl (l ++ fieldL v)) 0 l0 p.xs) := by
  have l1 := p.xs_len
  refine runs_each (X := List IV) (l := p.xs) (n := 30) (ls := fun _ _ => none) loops_none inner0 (fun i l => Sx 11 [.ptr 0 0, .int .i64 e, .osl 1 0, .int .i64 (i : Int)] [.var false p.cells, .row 0 false 1 l]) _
    (fun i l => l.length + sizes (p.xs.drop i) ≤ 10000) (e := .exit 0) (by simp) ?_ ?_ p.xs.length 0 l0 (by omega) (by simpa using h0)
  · intro i l hi hn
    rw [List.drop_eq_getElem_cons hi, sizes_cons] at hn
    have ho := ok_iff.1 ((pk_es hp).2 _ (List.getElem_mem hi))
    have hv := good_iff (hg _ (List.getElem_mem hi))
    have hz := pk_z hp hi
    have ht := (rw_in p e i l PK.fine rightG byFG fieldC fieldL macC1 macC2 macL)
    rw [pk_nth hp hi] at ht
    generalize p.xs[i] = v at *
    have hf := fieldL_len v
    revert ht
    (simp only [x0, x1, x2, x3, x4, x5, x6, x7, x6', x7', xt, intOf_int', boolOf_b, rowL_f, nlOf_f, clOf_f, szOf_f, isOf_f, isOf_int, toX_iv, cond_true, cond_false])
    intro ht
    refine .inl ⟨_, rfl, ht.trans ?_, by rw [List.length_append, hf]; omega⟩
    have hx : fieldC v = true := by simp only [fieldC, decide_eq_true_eq]; omega
    (refine bif_step (by first | assumption | exact decide_eq_true (by (first | omega | (simp only [true_and, and_true]; omega) | ((simp only [List.length_append, List.length_cons, List.length_nil, List.length_replicate, List.length_map, u8s_len, be_len, roomB_nat, roomB_val, maxLen_val, Nat.mul_one] at *); omega) | (simp only [true_and, and_true]; (simp only [List.length_append, List.length_cons, List.length_nil, List.length_replicate, List.length_map, u8s_len, be_len, roomB_nat, roomB_val, maxLen_val, Nat.mul_one] at *); omega)))) ?_)
    (refine bif_step (by first | assumption | exact decide_eq_true (by (first | omega | (simp only [true_and, and_true]; omega) | ((simp only [List.length_append, List.length_cons, List.length_nil, List.length_replicate, List.length_map, u8s_len, be_len, roomB_nat, roomB_val, maxLen_val, Nat.mul_one] at *); omega) | (simp only [true_and, and_true]; (simp only [List.length_append, List.length_cons, List.length_nil, List.length_replicate, List.length_map, u8s_len, be_len, roomB_nat, roomB_val, maxLen_val, Nat.mul_one] at *); omega)))) ?_)
    refine bif_step hx (bif_step (decide_eq_true (by rw [hf, roomB_nat, maxLen_val]; omega)) ?_)
    rw [wadd1 (by omega)]
  · intro l hn
    refine (rw_in p e p.xs.length l PK.fine rightG byFG fieldC fieldL macC1 macC2 macL).trans ?_
    (refine bif_stepF (by first | assumption | exact decide_eq_false (by (first | omega | (simp only [true_and, and_true]; omega) | ((simp only [List.length_append, List.length_cons, List.length_nil, List.length_replicate, List.length_map, u8s_len, be_len, roomB_nat, roomB_val, maxLen_val, Nat.mul_one] at *); omega) | (simp only [true_and, and_true]; (simp only [List.length_append, List.length_cons, List.length_nil, List.length_replicate, List.length_map, u8s_len, be_len, roomB_nat, roomB_val, maxLen_val, Nat.mul_one] at *); omega)))) ?_)
    rw [l1]
def rwD (p : PK) (i : Int) (l : List IV) : Bool := decide (i = 0 ∧ l.length + sizes p.xs ≤ 10000) && (p.fine && p.xs.all goodX)
def rwG (p : PK) (l : List IV) : List IV := l ++ fieldsL p.xs
theorem rw_ls : LoopsOK Try.prog hint (acall Try.prog hint (ovrOf rwTab)) (ltab [(11, 65530, LF 11 0 (rwL rwD rwG))]) := by
  refine ltab_cons (by kernel_rfl) (loopF_ok ?_) ltab_nil
  intro vs bx e vs' bx' h
  obtain ⟨e0, i, p, l, rfl, rfl, h1, rfl, rfl, rfl⟩ := rwL_mem h
  simp only [rwD, Bool.and_eq_true, decide_eq_true_eq] at h1
  obtain ⟨⟨rfl, h1⟩, h2, h3⟩ := h1
  obtain ⟨k1, k2, k3, k4⟩ := fine_iff h2
  have := rw_runs (e := e0) k1 k2 (List.all_eq_true.1 h3) h1
  rw [foldE_inl (g := fun l v => l ++ fieldL v) (fun _ _ _ => rfl), flat_fold] at this
  exact this
theorem rwrite_known : Known Try.prog hint 11 (wrP (fun p => p.fine && p.right) (fun p => p.fine && !p.right) writeL) := by
  refine known_of fits (spec := rwTab) rwTab_ok rw_ls ?_
  intro xs T v T1 h
  obtain ⟨p, rfl, rfl, h0⟩ := wrP_mem h
  refine ⟨30, (rw_all p rwD rwG PK.fine rightG byFG fieldC fieldL macC1 macC2 macL).trans ?_⟩
  rcases h0 with ⟨h1, rfl, rfl⟩ | ⟨h1, rfl, rfl⟩
  · simp only [Bool.and_eq_true] at h1
    obtain ⟨hp, hr⟩ := h1
    obtain ⟨k1, k2, k3, k4⟩ := fine_iff hp
    have hk := (pok_iff.1 k1)
    obtain ⟨r1, r2, r3, r4⟩ := right_iff hr
    have e0 : rightG p = 0 := by simp [rightG, hr]
    have hd : (hdrL p).length = 48 := hdrL_len p
    have hm : p.macN ≤ p.tot := by unfold PK.tot; omega
    have ht : p.tot = 48 + p.macN + sizes p.xs := rfl
    refine bif_step hp (bif_stepF (by rw [e0]; rfl) ?_)
    rw [sum_headN r1]
    have eh : [] ++ [IV.int .u8 (headN p), .int .u8 (IntKind.u8.wrap p.st), .int .u8 (IntKind.u8.wrap p.po), .int .u8 (IntKind.u8.wrap p.pr)] ++ byFG (IntKind.u64.wrap p.de) 4 ++ byFG (IntKind.u64.wrap p.di) 4 ++ byFG (IntKind.u64.wrap p.ri) 4 ++ byFG p.rf 8 ++ byFG p.og 8 ++ byFG p.rc 8 ++ byFG p.xm 8 = hdrL p := rfl
    (refine bif_step (decide_eq_true (by (simp only [List.length_append, List.length_cons, List.length_nil, List.length_replicate, u8s_len, be_len, dataL_len, byl2, byl4, byl8, roomB_nat, maxLen_val, Nat.mul_one, true_and, and_true, true_or, or_true, eq_self, Nat.zero_add] <;> omega))) ?_)
    (refine bif_step (decide_eq_true (by (simp only [List.length_append, List.length_cons, List.length_nil, List.length_replicate, u8s_len, be_len, dataL_len, byl2, byl4, byl8, roomB_nat, maxLen_val, Nat.mul_one, true_and, and_true, true_or, or_true, eq_self, Nat.zero_add] <;> omega))) ?_)
    (refine bif_step (decide_eq_true (by (simp only [List.length_append, List.length_cons, List.length_nil, List.length_replicate, u8s_len, be_len, dataL_len, byl2, byl4, byl8, roomB_nat, maxLen_val, Nat.mul_one, true_and, and_true, true_or, or_true, eq_self, Nat.zero_add] <;> omega))) ?_)
    (refine bif_step (decide_eq_true (by (simp only [List.length_append, List.length_cons, List.length_nil, List.length_replicate, u8s_len, be_len, dataL_len, byl2, byl4, byl8, roomB_nat, maxLen_val, Nat.mul_one, true_and, and_true, true_or, or_true, eq_self, Nat.zero_add] <;> omega))) ?_)
    (refine bif_step (decide_eq_true (by (simp only [List.length_append, List.length_cons, List.length_nil, List.length_replicate, u8s_len, be_len, dataL_len, byl2, byl4, byl8, roomB_nat, maxLen_val, Nat.mul_one, true_and, and_true, true_or, or_true, eq_self, Nat.zero_add] <;> omega))) ?_)
    (refine bif_step (decide_eq_true (by (simp only [List.length_append, List.length_cons, List.length_nil, List.length_replicate, u8s_len, be_len, dataL_len, byl2, byl4, byl8, roomB_nat, maxLen_val, Nat.mul_one, true_and, and_true, true_or, or_true, eq_self, Nat.zero_add] <;> omega))) ?_)
    (refine bif_step (decide_eq_true (by (simp only [List.length_append, List.length_cons, List.length_nil, List.length_replicate, u8s_len, be_len, dataL_len, byl2, byl4, byl8, roomB_nat, maxLen_val, Nat.mul_one, true_and, and_true, true_or, or_true, eq_self, Nat.zero_add] <;> omega))) ?_)
    rw [eh]
    have hwd : rwD p 0 (hdrL p) = true := by
      simp only [rwD, Bool.and_eq_true, decide_eq_true_eq, List.all_eq_true]
      exact ⟨⟨trivial, by omega⟩, hp, r2⟩
    have hg : rwG p (hdrL p) = hdrL p ++ fieldsL p.xs := rfl
    refine bif_step hwd ?_
    rw [hg, e0]
    have hl : (hdrL p ++ fieldsL p.xs).length = 48 + sizes p.xs := by rw [List.length_append, hd, fieldsL_len]
    cases ha : p.ha
    · refine bif_step rfl (bif_step (decide_eq_true ?_) ?_)
      · simp only [hl, roomB_nat, maxLen_val]; omega
      · simp [writeL, macsL, ha]
    · have hmn : p.macN = 4 + p.su.length := by simp [PK.macN, ha]
      refine bif_stepF rfl (bif_step (decide_eq_true ⟨hk.1.2.1, k3⟩) (bif_step (decide_eq_true ?_) ?_))
      · simp only [hl, macL, List.length_append, u8s_len, be_len, roomB_nat, maxLen_val]; omega
      · simp [writeL, macsL, ha]
  · simp only [Bool.and_eq_true, Bool.not_eq_true'] at h1
    have e0 : rightG p = 3 := by simp [rightG, h1.2]
    refine bif_step h1.1 (bif_step (by rw [e0]; rfl) ?_)
    rw [e0]
end
end Go.Proofs.Ytphddjolipaejaa
