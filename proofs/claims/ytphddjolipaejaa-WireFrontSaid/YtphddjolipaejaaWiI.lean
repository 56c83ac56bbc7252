/- Packets are held against each other and copied: what is proved of the given program. It bears no condition. -/
import Derived.Test.YtphddjolipaejaaWiH
namespace Go.Proofs.Ytphddjolipaejaa
open Go Go.Im
set_option linter.unusedVariables false
set_option linter.unusedSimpArgs false
noncomputable section

/-! ### Same -/
def sameX (x y : XV) : Bool := x.a == y.a && x.b == y.b && x.c == y.c && x.d == y.d && x.ts == y.ts && x.fs == y.fs && toBytes x.l1 == toBytes y.l1 && toBytes x.l2 == toBytes y.l2
theorem sx_known : Known Try.prog hint 26 (xxP (fun x y => x.ok && y.ok) sameX) := by
  refine known_of fits (spec := tab []) tab_nil loops_none ?_
  intro xs T v T1 h
  obtain ⟨x, y, rfl, rfl, hx, rfl, rfl⟩ := xxP_mem h
  simp only [Bool.and_eq_true, ok_iff] at hx
  obtain ⟨⟨⟨a1, a2, a3, a4⟩, a5, a6⟩, ⟨b1, b2, b3, b4⟩, b5, b6⟩ := hx
  refine ⟨30, (sx_all ..).trans ?_⟩
  have t : ∀ (z : Nat) (l : List IV), (z = 1 ∨ l.length = 0) → okB l = true → (decide (z = 1 ∨ l.length = 0) && isBytes l) = true := fun z l h1 h2 => by
    rw [decide_eq_true h1, isBytes_ok h2]; rfl
  refine bif_step (t _ _ a1 a5) (bif_step (t _ _ b1 b5) (bif_step (t _ _ a2 a6) (bif_step (t _ _ b2 b6) ?_)))
  simp only [Bool.cond_false_right, sameX]
def smTab : FuncId → Option SpecF := tab [(26, xxP (fun x y => x.ok && y.ok) sameX)]
theorem smTab_ok : ∀ f F, smTab f = some F → Known Try.prog hint f F := tab_cons sx_known tab_nil
def PK.headEq (p q : PK) : Bool := decide (p.le = q.le ∧ p.ve = q.ve ∧ p.mo = q.mo ∧ p.st = q.st ∧ p.po = q.po ∧ p.pr = q.pr ∧ p.de = q.de ∧ p.di = q.di ∧ p.ri = q.ri ∧ p.rf = q.rf ∧ p.og = q.og ∧ p.rc = q.rc ∧ p.xm = q.xm ∧ p.es.length = q.es.length)
def allSame (vs : List (XV × XV)) : Bool := vs.all fun x => sameX x.1 x.2
def PK.same (p q : PK) : Bool := p.headEq q && allSame (p.xs.zip q.xs) && (p.ha == q.ha && p.ky == q.ky && toBytes p.su == toBytes q.su)
def smStep (p q : PK) (i : Nat) (_x : Unit) (v : XV × XV) : Unit ⊕ (Ex × St) := if sameX v.1 v.2 then .inl () else .inr (.ret, Sx 14 [.ptr 0 0, .ptr 1 0, .bool false, .int .i64 (i : Int)] [.var false p.cells, .var false q.cells])
def smEnd : Nat → List (XV × XV) → Nat
  | i, [] => i
  | i, v :: vs => if sameX v.1 v.2 then smEnd (i + 1) vs else i
theorem sm_fold (p q : PK) : ∀ (vs : List (XV × XV)) (i : Nat), foldE (smStep p q) i () vs = if allSame vs then .inl () else .inr (.ret, Sx 14 [.ptr 0 0, .ptr 1 0, .bool false, .int .i64 ((smEnd i vs : Nat) : Int)] [.var false p.cells, .var false q.cells])
  | [], i => by simp [foldE, allSame]
  | v :: vs, i => by
    unfold foldE smEnd
    simp only [smStep, allSame, List.all_cons]
    by_cases h1 : sameX v.1 v.2 = true
    · simp only [h1, if_true, Bool.true_and]
      exact sm_fold p q vs (i + 1)
    · simp only [h1, if_false, Bool.false_eq_true, Bool.false_and]
theorem sm_runs {p q : PK} {b : Bool} (hp : p.ok = true) (hq : q.ok = true) (hl : p.es.length = q.es.length) :
    EachOK Try.prog hint (acall Try.prog hint (ovrOf smTab)) 0 (hint.kp 14) (loopAt Try.prog 14 122) (Sx 14 [.ptr 0 0, .ptr 1 0, .bool b, .int .i64 ((0 : Nat) : Int)] [.var false p.cells, .var false q.cells]) (.exit 0)
      (fun _ : Unit => Sx 14 [.ptr 0 0, .ptr 1 0, .bool b, .int .i64 (p.es.length : Int)] [.var false p.cells, .var false q.cells]) (foldE (smStep p q) 0 () (p.xs.zip q.xs)) := by
  have l1 := p.xs_len
  have l2 := q.xs_len
  have l3 : (p.xs.zip q.xs).length = p.es.length := by simp [List.length_zip, l1, l2, hl]
  have hbnd := (pok_iff.1 hp).1.2.2.1
  refine runs_each (X := Unit) (l := p.xs.zip q.xs) (n := 30) (ls := fun _ _ => none) loops_none inner0 (fun i _ => Sx 14 [.ptr 0 0, .ptr 1 0, .bool b, .int .i64 (i : Int)] [.var false p.cells, .var false q.cells]) _
    (fun _ _ => True) (e := .exit 0) (by simp) ?_ ?_ (p.xs.zip q.xs).length 0 () (by omega) trivial
  · intro i n hi hn
    have i1 : i < p.xs.length := by omega
    have i2 : i < q.xs.length := by omega
    have ht := sm_in p q b i (fun x y => x.ok && y.ok) sameX
    have ho1 := (pk_es hp).2 _ (List.getElem_mem i1)
    have ho2 := (pk_es hq).2 _ (List.getElem_mem i2)
    rw [pk_nth hp i1, pk_nth hq i2] at ht
    have hz1 := pk_z hp i1
    have hz2 := pk_z hq i2
    rw [List.getElem_zip]
    generalize p.xs[i] = v at *
    generalize q.xs[i] = w at *
    revert ht
    (simp only [x0, x1, x2, x3, x4, x5, x6, x7, x6', x7', xt, intOf_int', boolOf_b, rowL_f, nlOf_f, clOf_f, szOf_f, isOf_f, isOf_int, toX_iv, cond_true, cond_false])
    intro ht
    by_cases h2 : sameX v w = true
    · refine .inl ⟨_, if_pos h2, ht.trans ?_, trivial⟩
      (refine bif_step (by first | assumption | exact decide_eq_true (by (first | omega | (simp only [true_and, and_true]; omega) | ((simp only [List.length_append, List.length_cons, List.length_nil, List.length_replicate, List.length_map, u8s_len, be_len, roomB_nat, roomB_val, maxLen_val, Nat.mul_one] at *); omega) | (simp only [true_and, and_true]; (simp only [List.length_append, List.length_cons, List.length_nil, List.length_replicate, List.length_map, u8s_len, be_len, roomB_nat, roomB_val, maxLen_val, Nat.mul_one] at *); omega)))) ?_)
      (refine bif_step (by first | assumption | exact decide_eq_true (by (first | omega | (simp only [true_and, and_true]; omega) | ((simp only [List.length_append, List.length_cons, List.length_nil, List.length_replicate, List.length_map, u8s_len, be_len, roomB_nat, roomB_val, maxLen_val, Nat.mul_one] at *); omega) | (simp only [true_and, and_true]; (simp only [List.length_append, List.length_cons, List.length_nil, List.length_replicate, List.length_map, u8s_len, be_len, roomB_nat, roomB_val, maxLen_val, Nat.mul_one] at *); omega)))) ?_)
      (refine bif_step (by first | assumption | exact decide_eq_true (by (first | omega | (simp only [true_and, and_true]; omega) | ((simp only [List.length_append, List.length_cons, List.length_nil, List.length_replicate, List.length_map, u8s_len, be_len, roomB_nat, roomB_val, maxLen_val, Nat.mul_one] at *); omega) | (simp only [true_and, and_true]; (simp only [List.length_append, List.length_cons, List.length_nil, List.length_replicate, List.length_map, u8s_len, be_len, roomB_nat, roomB_val, maxLen_val, Nat.mul_one] at *); omega)))) ?_)
      refine bif_step (by rw [ho1, ho2]; rfl) (bif_stepF (by rw [h2]; rfl) ?_)
      rw [wadd1 (by omega)]
    · refine .inr ⟨_, _, if_neg h2, by simp, ht.trans ?_⟩
      (refine bif_step (by first | assumption | exact decide_eq_true (by (first | omega | (simp only [true_and, and_true]; omega) | ((simp only [List.length_append, List.length_cons, List.length_nil, List.length_replicate, List.length_map, u8s_len, be_len, roomB_nat, roomB_val, maxLen_val, Nat.mul_one] at *); omega) | (simp only [true_and, and_true]; (simp only [List.length_append, List.length_cons, List.length_nil, List.length_replicate, List.length_map, u8s_len, be_len, roomB_nat, roomB_val, maxLen_val, Nat.mul_one] at *); omega)))) ?_)
      (refine bif_step (by first | assumption | exact decide_eq_true (by (first | omega | (simp only [true_and, and_true]; omega) | ((simp only [List.length_append, List.length_cons, List.length_nil, List.length_replicate, List.length_map, u8s_len, be_len, roomB_nat, roomB_val, maxLen_val, Nat.mul_one] at *); omega) | (simp only [true_and, and_true]; (simp only [List.length_append, List.length_cons, List.length_nil, List.length_replicate, List.length_map, u8s_len, be_len, roomB_nat, roomB_val, maxLen_val, Nat.mul_one] at *); omega)))) ?_)
      (refine bif_step (by first | assumption | exact decide_eq_true (by (first | omega | (simp only [true_and, and_true]; omega) | ((simp only [List.length_append, List.length_cons, List.length_nil, List.length_replicate, List.length_map, u8s_len, be_len, roomB_nat, roomB_val, maxLen_val, Nat.mul_one] at *); omega) | (simp only [true_and, and_true]; (simp only [List.length_append, List.length_cons, List.length_nil, List.length_replicate, List.length_map, u8s_len, be_len, roomB_nat, roomB_val, maxLen_val, Nat.mul_one] at *); omega)))) ?_)
      refine bif_step (by rw [ho1, ho2]; rfl) (bif_step (by rw [Bool.not_eq_true] at h2; rw [h2]; rfl) rfl)
  · intro n hn
    rw [l3]
    refine (sm_in p q b p.es.length (fun x y => x.ok && y.ok) sameX).trans ?_
    (refine bif_stepF (by first | assumption | exact decide_eq_false (by (first | omega | (simp only [true_and, and_true]; omega) | ((simp only [List.length_append, List.length_cons, List.length_nil, List.length_replicate, List.length_map, u8s_len, be_len, roomB_nat, roomB_val, maxLen_val, Nat.mul_one] at *); omega) | (simp only [true_and, and_true]; (simp only [List.length_append, List.length_cons, List.length_nil, List.length_replicate, List.length_map, u8s_len, be_len, roomB_nat, roomB_val, maxLen_val, Nat.mul_one] at *); omega)))) ?_)
    rfl
def smD1 (p q : PK) (i : Int) : Bool := decide (i = 0 ∧ p.es.length = q.es.length) && (p.ok && q.ok && allSame (p.xs.zip q.xs))
def smD2 (p q : PK) (i : Int) : Bool := decide (i = 0 ∧ p.es.length = q.es.length) && (p.ok && q.ok && !allSame (p.xs.zip q.xs))
def smG (p q : PK) : Int := ((smEnd 0 (p.xs.zip q.xs) : Nat) : Int)
theorem sm_ls : LoopsOK Try.prog hint (acall Try.prog hint (ovrOf smTab)) (ltab [(14, 122, LF 14 0 (smL smD1 smD2 smG))]) := by
  refine ltab_cons (by kernel_rfl) (loopF_ok ?_) ltab_nil
  intro vs bx e vs' bx' h
  obtain ⟨b, i, p, q, rfl, rfl, rfl, h0⟩ := smL_mem h
  rcases h0 with ⟨h1, rfl, rfl⟩ | ⟨h1, rfl, rfl⟩
  · simp only [smD1, Bool.and_eq_true, decide_eq_true_eq] at h1
    obtain ⟨⟨rfl, h1⟩, ⟨h2, h3⟩, h4⟩ := h1
    have := sm_runs (b := b) h2 h3 h1
    rw [sm_fold, if_pos h4] at this
    exact this
  · simp only [smD2, Bool.and_eq_true, decide_eq_true_eq, Bool.not_eq_true'] at h1
    obtain ⟨⟨rfl, h1⟩, ⟨h2, h3⟩, h4⟩ := h1
    have := sm_runs (b := b) h2 h3 h1
    rw [sm_fold, if_neg (by rw [h4]; simp)] at this
    exact this
theorem ppP_mem {c g : PK → PK → Bool} {xs : List IV} {T : List Blk} {v : IV} {T1 : List Blk} (h : (true, v, T1) ∈ ppP c g xs T) : ∃ p q : PK, xs = [p.iv, q.iv] ∧ T = [] ∧ c p q = true ∧ v = .bool (g p q) ∧ T1 = [] := by
  unfold ppP at h
  split at h
  · rename_i le ve mo st po pr de di ri rf og rc xm n1 c1 z1 es ha ky n2 c2 z2 su le' ve' mo' st' po' pr' de' di' ri' rf' og' rc' xm' n1' c1' z1' es' ha' ky' n2' c2' z2' su'
    simp only [List.mem_cons, List.not_mem_nil, or_false, Prod.mk.injEq, Bool.true_eq] at h
    exact ⟨⟨le, ve, mo, st, po, pr, de, di, ri, rf, og, rc, xm, n1, c1, z1, es, ha, ky, n2, c2, z2, su⟩, ⟨le', ve', mo', st', po', pr', de', di', ri', rf', og', rc', xm', n1', c1', z1', es', ha', ky', n2', c2', z2', su'⟩, rfl, rfl, h.1, h.2.1, h.2.2⟩
  · cases h
theorem cpP_mem {c : PK → Bool} {ge gs : PK → List IV} {xs : List IV} {T : List Blk} {v : IV} {T1 : List Blk} (h : (true, v, T1) ∈ cpP c ge gs xs T) : ∃ p : PK, xs = [p.iv] ∧ T = [] ∧ c p = true ∧
    v = .agg [.int .i64 p.le, .int .i64 p.ve, .int .i64 p.mo, .int .i64 p.st, .int .i64 p.po, .int .i64 p.pr, .int .u32 p.de, .int .u32 p.di, .int .u32 p.ri, .int .u64 p.rf, .int .u64 p.og, .int .u64 p.rc, .int .u64 p.xm, .osl 0 0, .bool p.ha, .int .u32 p.ky, .osl 1 0] ∧ T1 = [.row 0 false 8 (ge p), .row 0 false 1 (gs p)] := by
  unfold cpP at h
  split at h
  · rename_i le ve mo st po pr de di ri rf og rc xm n1 c1 z1 es ha ky n2 c2 z2 su
    simp only [List.mem_cons, List.not_mem_nil, or_false, Prod.mk.injEq, Bool.true_eq] at h
    exact ⟨⟨le, ve, mo, st, po, pr, de, di, ri, rf, og, rc, xm, n1, c1, z1, es, ha, ky, n2, c2, z2, su⟩, rfl, rfl, h.1, h.2.1, h.2.2⟩
  · cases h
theorem wrP_mem {c1 c2 : PK → Bool} {g : PK → List IV} {xs : List IV} {T : List Blk} {v : IV} {T1 : List Blk} (h : (true, v, T1) ∈ wrP c1 c2 g xs T) : ∃ p : PK, xs = [p.iv] ∧ T = [] ∧
    ((c1 p = true ∧ v = .tup [.osl 0 0, .int .i64 0] ∧ T1 = [.row 0 false 1 (g p)]) ∨ (c2 p = true ∧ v = .tup [.fsl (some true) true 0 [], .int .i64 3] ∧ T1 = [])) := by
  unfold wrP at h
  split at h
  · rename_i le ve mo st po pr de di ri rf og rc xm n1 c1 z1 es ha ky n2 c2 z2 su
    simp only [List.mem_cons, List.not_mem_nil, or_false, Prod.mk.injEq, Bool.true_eq] at h
    exact ⟨⟨le, ve, mo, st, po, pr, de, di, ri, rf, og, rc, xm, n1, c1, z1, es, ha, ky, n2, c2, z2, su⟩, rfl, rfl, h⟩
  · cases h
theorem pkOf_eq {l : List IV} {p : PK} (h : pkOf l = some p) : l = p.cells := by
  unfold pkOf at h
  split at h
  · cases h; rfl
  · cases h
theorem pkOfO_eq {l : List IV} {p : PK} (h : pkOfO l = some p) : l = p.cellsO := by
  unfold pkOfO at h
  split at h
  · cases h; rfl
  · cases h
theorem cpL_mem {d : PK → List IV → Int → Bool} {g : PK → List IV → List IV} {vs : List IV} {bx : List Blk} {e : Ex} {vs' : List IV} {bx' : List Blk} (h : (true, e, vs', bx') ∈ cpL d g vs bx) :
    ∃ (i : Int) (p q r : PK) (l : List IV), vs = [.ptr 0 0, .ptr 1 0, .ptr 2 0, .int .i64 i] ∧ bx = [.var false p.cells, .var false q.cells, .var false r.cellsO, .row 0 false 8 l] ∧ d p l i = true ∧ e = .exit 0 ∧
      vs' = [.ptr 0 0, .ptr 1 0, .ptr 2 0, .int .i64 (p.es.length : Int)] ∧ bx' = [.var false p.cells, .var false q.cells, .var false r.cellsO, .row 0 false 8 (g p l)] := by
  unfold cpL at h
  split at h
  · split at h
    · rename_i i a b c l _ _ _ p q r hp hq hr
      simp only [List.mem_cons, List.not_mem_nil, or_false, Prod.mk.injEq, Bool.true_eq] at h
      rw [pkOf_eq hp, pkOf_eq hq, pkOfO_eq hr] at h ⊢
      exact ⟨i, p, q, r, l, rfl, rfl, h.1, h.2.1, h.2.2.1, h.2.2.2⟩
    · cases h
  · cases h
theorem wL_mem {d : Nat → List IV → Int → Int → List IV → Bool} {g : List IV → List IV → List IV} {vs : List IV} {bx : List Blk} {e : Ex} {vs' : List IV} {bx' : List Blk} (h : (true, e, vs', bx') ∈ wL d g vs bx) :
    ∃ (nl : Option Bool) (cl : Bool) (z : Nat) (es : List IV) (len i : Int) (p : PK) (l : List IV), vs = [.ptr 0 0, .osl 1 0, .fsl nl cl z es, .int .i64 len, .int .i64 i] ∧ bx = [.var false p.cells, .row 0 false 1 l] ∧ d z es len i l = true ∧ e = .exit 0 ∧
      vs' = [.ptr 0 0, .osl 1 0, .fsl nl cl z es, .int .i64 len, .int .i64 len] ∧ bx' = [.var false p.cells, .row 0 false 1 (g es l)] := by
  unfold wL at h
  split at h
  · split at h
    · rename_i nl cl z es len i q l _ p hp
      simp only [List.mem_cons, List.not_mem_nil, or_false, Prod.mk.injEq, Bool.true_eq] at h
      rw [pkOf_eq hp] at h ⊢
      exact ⟨nl, cl, z, es, len, i, p, l, rfl, rfl, h.1, h.2.1, h.2.2.1, h.2.2.2⟩
    · cases h
  · cases h
theorem rwL_mem {d : PK → Int → List IV → Bool} {g : PK → List IV → List IV} {vs : List IV} {bx : List Blk} {e : Ex} {vs' : List IV} {bx' : List Blk} (h : (true, e, vs', bx') ∈ rwL d g vs bx) :
    ∃ (e0 i : Int) (p : PK) (l : List IV), vs = [.ptr 0 0, .int .i64 e0, .osl 1 0, .int .i64 i] ∧ bx = [.var false p.cells, .row 0 false 1 l] ∧ d p i l = true ∧ e = .exit 0 ∧
      vs' = [.ptr 0 0, .int .i64 e0, .osl 1 0, .int .i64 (p.es.length : Int)] ∧ bx' = [.var false p.cells, .row 0 false 1 (g p l)] := by
  unfold rwL at h
  split at h
  · rename_i e0 i le ve mo st po pr de di ri rf og rc xm n1 c1 z1 es ha ky n2 c2 z2 su l
    simp only [List.mem_cons, List.not_mem_nil, or_false, Prod.mk.injEq, Bool.true_eq] at h
    exact ⟨e0, i, ⟨le, ve, mo, st, po, pr, de, di, ri, rf, og, rc, xm, n1, c1, z1, es, ha, ky, n2, c2, z2, su⟩, l, rfl, rfl, h.1, h.2.1, h.2.2.1, h.2.2.2⟩
  · cases h
end
end Go.Proofs.Ytphddjolipaejaa
