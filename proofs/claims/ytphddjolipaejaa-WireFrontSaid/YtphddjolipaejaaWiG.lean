/- What is right: what is proved of the given program. It bears no condition. -/
import Derived.Test.YtphddjolipaejaaWiF
namespace Go.Proofs.Ytphddjolipaejaa
open Go Go.Im
set_option linter.unusedVariables false
set_option linter.unusedSimpArgs false
noncomputable section

def sizes (vs : List XV) : Nat := (vs.map xsize).foldr (· + ·) 0
theorem sizes_cons (v : XV) (vs : List XV) : sizes (v :: vs) = xsize v + sizes vs := rfl
def goodX (v : XV) : Bool := decide (1 ≤ v.a ∧ v.a ≤ 63 ∧ 0 ≤ v.d ∧ v.d ≤ 65535 ∧ v.l1.length ≤ 2048 ∧ v.l2.length ≤ 2048)
def PK.headOK (p : PK) : Bool := decide (0 ≤ p.le ∧ p.le ≤ 3 ∧ p.ve = 4 ∧ 1 ≤ p.mo ∧ p.mo ≤ 5 ∧ 0 ≤ p.st ∧ p.st ≤ 16 ∧ 0 ≤ p.po ∧ p.po ≤ 17 ∧ -128 ≤ p.pr ∧ p.pr ≤ 127 ∧ p.es.length ≤ 8)
def PK.macOK (p : PK) : Bool := bif p.ha then decide (p.su.length = 0 ∨ p.su.length = 16) else decide (p.ky = 0 ∧ p.su.length = 0)
def PK.macN (p : PK) : Nat := bif p.ha then 4 + p.su.length else 0
def PK.tot (p : PK) : Nat := 48 + p.macN + sizes p.xs
/-- Is a packet right? -/
def PK.right (p : PK) : Bool := p.headOK && p.xs.all goodX && p.macOK && decide (p.tot ≤ 8192)
def rightG (p : PK) : Int := bif p.right then 0 else 3
def PK.fine (p : PK) : Bool := p.ok && !p.heavy
theorem fine_iff {p : PK} (h : p.fine = true) : p.ok = true ∧ p.es.length ≤ 20 ∧ p.su.length ≤ 20000 ∧ ∀ v ∈ p.xs, wt v ≤ 20000 := by
  simp only [PK.fine, Bool.and_eq_true, Bool.not_eq_true'] at h
  have := heavy_light h.2
  refine ⟨h.1, this.1, by omega, fun v hv => ?_⟩
  have := wt_le hv
  omega
theorem xsize_le {v : XV} (h : wt v ≤ 20000) : xsize v ≤ 20030 := by
  have h1 := fillN_lt v.l1.length
  have h2 := fillN_lt v.l2.length
  unfold wt at h
  unfold xsize
  omega
def bnd (i : Nat) : Nat := i * 20030
theorem bnd_0 : bnd 0 = 0 := by simp [bnd]
theorem bnd_1 (i : Nat) : bnd (i + 1) = bnd i + 20030 := by unfold bnd; rw [Nat.add_mul]
theorem bnd_le {i : Nat} (h : i ≤ 20) : bnd i ≤ 400600 := Nat.mul_le_mul_right 20030 h
theorem good_bif (b : Bool) (v : XV) : (bif bif bif bif bif bif b then decide (v.a ≥ 1) else false then decide (v.a ≤ 63) else false then decide (v.d ≥ 0) else false then decide (v.d ≤ 65535) else false then decide ((v.l1.length : Int) ≤ 2048) else false then decide ((v.l2.length : Int) ≤ 2048) else false) = (b && goodX v) := by
  rw [Bool.eq_iff_iff]
  simp only [Bool.cond_false_right, Bool.and_eq_true, decide_eq_true_eq, goodX, and_assoc]
  constructor
  · rintro ⟨h1, h2⟩; exact ⟨h1, by omega⟩
  · rintro ⟨h1, h2⟩; exact ⟨h1, by omega⟩
noncomputable abbrev rtTab : FuncId → Option SpecF := tab [(20, xP .i64 xlight fun v => ((xsize v : Nat) : Int))]
theorem rtTab_ok : ∀ f F, rtTab f = some F → Known Try.prog hint f F := tab_cons size_known tab_nil
def rtStep (x : Bool × Nat) (v : XV) : Bool × Nat := (x.1 && goodX v, x.2 + xsize v)
theorem rt_fold : ∀ (vs : List XV) (b : Bool) (n : Nat), vs.foldl rtStep (b, n) = (b && vs.all goodX, n + sizes vs)
  | [], b, n => by simp [sizes]
  | v :: vs, b, n => by
    rw [List.foldl_cons, show rtStep (b, n) v = (b && goodX v, n + xsize v) from rfl, rt_fold vs, List.all_cons, sizes_cons, Bool.and_assoc, Nat.add_assoc]
theorem rt_runs {p : PK} {b cl : Bool} {nl : Option Bool} {z : Nat} {vs : List XV} (hl : vs.length ≤ 20) (hz : z = 8 ∨ vs.length = 0) (hv : ∀ v ∈ vs, wt v ≤ 20000) :
    EachOK Try.prog hint (acall Try.prog hint (ovrOf rtTab)) 0 (hint.kp 12) (loopAt Try.prog 12 122) (Sx 12 [.ptr 0 0, .bool b, .int .i64 ((48 : Nat) : Int), .fsl nl cl z (vs.map XV.iv), .int .i64 (vs.length : Int), .int .i64 ((0 : Nat) : Int)] [.var false p.cells]) (.exit 0)
      (fun x : Bool × Nat => Sx 12 [.ptr 0 0, .bool x.1, .int .i64 (x.2 : Int), .fsl nl cl z (vs.map XV.iv), .int .i64 (vs.length : Int), .int .i64 (vs.length : Int)] [.var false p.cells]) (foldE (fun _ x v => .inl (rtStep x v)) 0 (b, 48) vs) := by
  refine runs_each (X := Bool × Nat) (l := vs) (n := 30) (ls := fun _ _ => none) loops_none inner0 (fun i x => Sx 12 [.ptr 0 0, .bool x.1, .int .i64 (x.2 : Int), .fsl nl cl z (vs.map XV.iv), .int .i64 (vs.length : Int), .int .i64 (i : Int)] [.var false p.cells]) _
    (fun i x => x.2 ≤ 48 + i * 20030) (e := .exit 0) (by simp) ?_ ?_ vs.length 0 (b, 48) (by omega) (by simp)
  · intro i x hi hn
    have hw := hv _ (List.getElem_mem hi)
    have ht := (rt_in p (vs.map XV.iv) x.1 cl nl z x.2 vs.length i xlight fun v => ((xsize v : Nat) : Int))
    rw [Int.toNat_natCast, nthD_mapf hi] at ht
    generalize vs[i] = v at *
    have hs := xsize_le hw
    revert ht
    (simp only [x0, x1, x2, x3, x4, x5, x6, x7, x6', x7', xt, intOf_int', boolOf_b, rowL_f, nlOf_f, clOf_f, szOf_f, isOf_f, isOf_int, toX_iv, cond_true, cond_false])
    rw [good_bif]
    intro ht
    refine .inl ⟨_, rfl, ht.trans ?_, ?_⟩
    · have hx : xlight v = true := by simp only [xlight, decide_eq_true_eq]; unfold wt at hw; omega
      have hm : i * 20030 ≤ 20 * 20030 := Nat.mul_le_mul_right _ (by omega)
      (refine bif_step (by first | assumption | exact decide_eq_true (by (first | omega | (simp only [true_and, and_true]; omega) | ((simp only [List.length_append, List.length_cons, List.length_nil, List.length_replicate, List.length_map, u8s_len, be_len, roomB_nat, roomB_val, maxLen_val, Nat.mul_one] at *); omega) | (simp only [true_and, and_true]; (simp only [List.length_append, List.length_cons, List.length_nil, List.length_replicate, List.length_map, u8s_len, be_len, roomB_nat, roomB_val, maxLen_val, Nat.mul_one] at *); omega)))) ?_)
      refine bif_step (decide_eq_true (by simp only [List.length_map]; omega)) ?_
      refine bif_step hx ?_
      rw [wadd1 (by omega), wadd (by omega)]
      rfl
    · show x.2 + xsize v ≤ 48 + (i + 1) * 20030
      rw [Nat.add_mul]; omega
  · intro x hn
    refine (rt_in p (vs.map XV.iv) x.1 cl nl z x.2 vs.length vs.length xlight fun v => ((xsize v : Nat) : Int)).trans ?_
    (refine bif_stepF (by first | assumption | exact decide_eq_false (by (first | omega | (simp only [true_and, and_true]; omega) | ((simp only [List.length_append, List.length_cons, List.length_nil, List.length_replicate, List.length_map, u8s_len, be_len, roomB_nat, roomB_val, maxLen_val, Nat.mul_one] at *); omega) | (simp only [true_and, and_true]; (simp only [List.length_append, List.length_cons, List.length_nil, List.length_replicate, List.length_map, u8s_len, be_len, roomB_nat, roomB_val, maxLen_val, Nat.mul_one] at *); omega)))) ?_)
    rfl
def rtD (_b : Bool) (n : Int) (z : Nat) (l : List IV) (len i : Int) : Bool := decide (n = 48 ∧ len = l.length ∧ i = 0 ∧ l.length ≤ 20 ∧ (z = 8 ∨ l.length = 0) ∧ ∀ v ∈ xsOf l, wt v ≤ 20000) && l.all isX
def rtB (b : Bool) (l : List IV) : Bool := b && (xsOf l).all goodX
def rtN (n : Int) (l : List IV) : Int := ((48 + sizes (xsOf l) : Nat) : Int)
theorem rt_ls : LoopsOK Try.prog hint (acall Try.prog hint (ovrOf rtTab)) (ltab [(12, 122, LF 12 0 (rtL rtD rtB rtN))]) := by
  refine ltab_cons (by kernel_rfl) (loopF_ok ?_) ltab_nil
  intro vs bx e vs' bx' h
  obtain ⟨b, n, len, i, nl, cl, z, l, p, rfl, rfl, rfl, h1, rfl, rfl⟩ := rtL_mem h
  simp only [rtD, Bool.and_eq_true, decide_eq_true_eq] at h1
  obtain ⟨⟨rfl, rfl, rfl, h1, h2, h3⟩, h4⟩ := h1
  have hx := (xs_eq h4).1
  unfold rtB rtN
  generalize xsOf l = vs at *
  subst hx
  rw [List.length_map] at h1 h2 ⊢
  have := rt_runs (p := p) (b := b) (cl := cl) (nl := nl) h1 h2 h3
  rw [foldE_inl (g := rtStep) (fun _ _ _ => rfl), rt_fold] at this
  exact this
theorem head_bif (p : PK) : (bif bif bif bif bif bif bif bif bif bif bif decide (p.le ≥ (0 : Int)) then decide (p.le ≤ (3 : Int)) else false then p.ve == (4 : Int) else false then decide (p.mo ≥ (1 : Int)) else false then decide (p.mo ≤ (5 : Int)) else false then decide (p.st ≥ (0 : Int)) else false then decide (p.st ≤ (16 : Int)) else false then decide (p.po ≥ (0 : Int)) else false then decide (p.po ≤ (17 : Int)) else false then
    decide (p.pr ≥ (-128 : Int)) else false then decide (p.pr ≤ (127 : Int)) else false then decide ((↑p.es.length : Int) ≤ (8 : Int)) else false) = p.headOK := by
  rw [Bool.eq_iff_iff]
  simp only [Bool.cond_false_right, Bool.and_eq_true, decide_eq_true_eq, beq_iff_eq, PK.headOK, and_assoc]
  omega
theorem fin3 {x r : Bool} (h : x = !r) : (bif x then some (IV.int .i64 (3 : Int), ([] : List Blk)) else some (.int .i64 0, [])) = some (.int .i64 (bif r then 0 else 3), []) := by
  subst h; cases r <;> rfl
theorem right_known : Known Try.prog hint 12 (pkP PK.fine fun p => .int .i64 (rightG p)) := by
  refine known_of fits (spec := rtTab) rtTab_ok rt_ls ?_
  intro xs T v T1 h
  obtain ⟨p, rfl, rfl, hp, rfl, rfl⟩ := pkP_mem h
  obtain ⟨h1, h2, h3, h4⟩ := fine_iff hp
  have hk := pok_iff.1 h1
  refine ⟨30, (rt_all p rtD rtB rtN xlight fun v => ((xsize v : Nat) : Int)).trans ?_⟩
  rw [head_bif]
  have hd : rtD p.headOK 48 p.z1 p.es (p.es.length : Int) 0 = true := by
    simp only [rtD, Bool.and_eq_true, decide_eq_true_eq]
    exact ⟨⟨trivial, trivial, trivial, h2, hk.1.1, h4⟩, hk.2.2⟩
  refine bif_step hd ?_
  have hs : sizes p.xs ≤ 20 * 20030 := by
    have : ∀ vs : List XV, (∀ v ∈ vs, wt v ≤ 20000) → sizes vs ≤ vs.length * 20030 := by
      intro vs hv
      induction vs with
      | nil => simp [sizes]
      | cons v vs ih =>
        have := xsize_le (hv v (List.mem_cons_self ..))
        have := ih (fun w hw => hv w (List.mem_cons_of_mem _ hw))
        rw [sizes_cons, List.length_cons, Nat.add_mul]; omega
    have := this p.xs h4
    rw [p.xs_len] at this
    exact Nat.le_trans this (Nat.mul_le_mul_right _ h2)
  have eb : rtB p.headOK p.es = (p.headOK && p.xs.all goodX) := rfl
  have en : rtN 48 p.es = ((48 + sizes p.xs : Nat) : Int) := rfl
  rw [eb, en]
  unfold rightG PK.right PK.macOK PK.tot PK.macN
  revert hs
  generalize p.headOK = hb
  generalize p.xs.all goodX = gb
  generalize sizes p.xs = ss
  intro hs
  cases hh : p.ha
  · refine bif_stepF rfl (fin3 ?_)
    simp only [cond_false, Bool.cond_false_right, Bool.cond_true_left]
    rw [Bool.eq_iff_iff]
    cases hb <;> cases gb <;> simp [-List.length_eq_zero_iff] <;> omega
  · refine bif_step rfl (fin3 ?_)
    simp only [cond_true, Bool.cond_false_right, Bool.cond_true_left]
    rw [show (4 : Int) = ((4 : Nat) : Int) from rfl, wadd (by omega), wadd (by omega), Bool.eq_iff_iff]
    cases hb <;> cases gb <;> simp [-List.length_eq_zero_iff] <;> omega

/-! ### The document's own -/
theorem good_bif2 (v : XV) (h : 1 ≤ v.a ∧ v.a ≤ 63) : (bif bif !(decide ((0 : Int) ≤ v.d) && decide (v.d ≤ (65535 : Int))) then true else decide ((v.l1.length : Int) > 2048) then true else decide ((v.l2.length : Int) > 2048)) = !goodX v := by
  rw [Bool.eq_iff_iff]
  simp only [Bool.cond_true_left, Bool.false_or, Bool.or_eq_true, Bool.not_eq_true', Bool.and_eq_false_iff, decide_eq_false_iff_not, decide_eq_true_eq, goodX, cond_false]
  omega
theorem good_bif1 (v : XV) : ((!(decide ((1 : Int) ≤ v.a) && decide (v.a ≤ (63 : Int)))) == false) = decide (1 ≤ v.a ∧ v.a ≤ 63) := by
  rw [Bool.eq_iff_iff]
  simp
noncomputable abbrev rrTab : FuncId → Option SpecF := tab [(25, btwF), (23, xRowP fieldC fieldL), (24, macP macC1 macC2 macL)]
theorem rrTab_ok : ∀ f F, rrTab f = some F → Known Try.prog hint f F := tab_cons btw_known (tab_cons field_known (tab_cons mac_known tab_nil))
def rrStep (p : PK) (i : Nat) (n : Nat) (v : XV) : Nat ⊕ (Ex × St) := if goodX v then .inl (n + xsize v) else .inr (.ret, Sx 13 [.ptr 0 0, .int .i64 3, .int .i64 (n : Int), .int .i64 (i : Int)] [.var false p.cells])
def rrEnd : Nat → Nat → List XV → Nat × Nat
  | i, n, [] => (n, i)
  | i, n, v :: vs => if goodX v then rrEnd (i + 1) (n + xsize v) vs else (n, i)
theorem rr_fold (p : PK) : ∀ (vs : List XV) (i n : Nat), foldE (rrStep p) i n vs = if vs.all goodX then .inl (n + sizes vs) else .inr (.ret, Sx 13 [.ptr 0 0, .int .i64 3, .int .i64 ((rrEnd i n vs).1 : Int), .int .i64 ((rrEnd i n vs).2 : Int)] [.var false p.cells])
  | [], i, n => by simp [foldE, sizes]
  | v :: vs, i, n => by
    unfold foldE rrEnd
    simp only [rrStep, List.all_cons]
    by_cases h1 : goodX v = true
    · simp only [h1, if_true, Bool.true_and]
      rw [rr_fold p vs (i + 1) (n + xsize v), sizes_cons, Nat.add_assoc]
    · simp only [h1, if_false, Bool.false_eq_true, Bool.false_and]
theorem rr_runs {p : PK} {e : Int} {n0 : Nat} (hp : p.ok = true) (he : p.es.length ≤ 20) (hv : ∀ v ∈ p.xs, wt v ≤ 20000) (hn0 : n0 ≤ 30000) :
    EachOK Try.prog hint (acall Try.prog hint (ovrOf rrTab)) 0 (hint.kp 13) (loopAt Try.prog 13 122) (Sx 13 [.ptr 0 0, .int .i64 e, .int .i64 (n0 : Int), .int .i64 ((0 : Nat) : Int)] [.var false p.cells]) (.exit 0)
      (fun n : Nat => Sx 13 [.ptr 0 0, .int .i64 e, .int .i64 (n : Int), .int .i64 (p.es.length : Int)] [.var false p.cells]) (foldE (rrStep p) 0 n0 p.xs) := by
  have hl := p.xs_len
  refine runs_each (X := Nat) (l := p.xs) (n := 30) (ls := fun _ _ => none) loops_none inner0 (fun i n => Sx 13 [.ptr 0 0, .int .i64 e, .int .i64 ((n : Nat) : Int), .int .i64 (i : Int)] [.var false p.cells]) _
    (fun i n => n ≤ n0 + bnd i) (e := .exit 0) (by simp) ?_ ?_ p.xs.length 0 n0 (by omega) (by rw [bnd_0]; omega)
  · intro i n hi hn
    have hw := hv _ (List.getElem_mem hi)
    have hok := ok_iff.1 ((pk_es hp).2 _ (List.getElem_mem hi))
    have ht := rr_in p e n i fieldC fieldL macC1 macC2 macL
    rw [pk_nth hp hi] at ht
    have hz := pk_z hp hi
    generalize p.xs[i] = v at *
    have hs := xsize_le hw
    revert ht
    (simp only [x0, x1, x2, x3, x4, x5, x6, x7, x6', x7', xt, intOf_int', boolOf_b, rowL_f, nlOf_f, clOf_f, szOf_f, isOf_f, isOf_int, toX_iv, cond_true, cond_false])
    rw [good_bif1]
    intro ht
    have hm : bnd i ≤ 400600 := bnd_le (by omega)
    have hb1 := bnd_1 i
    generalize bnd (i + 1) = b1 at *
    generalize bnd i = b0 at *
    by_cases h1 : 1 ≤ v.a ∧ v.a ≤ 63
    · rw [good_bif2 v h1] at ht
      by_cases h2 : goodX v = true
      · refine .inl ⟨_, if_pos h2, ht.trans ?_, ?_⟩
        · have hx : fieldC v = true := by
            simp only [fieldC, decide_eq_true_eq]; unfold wt at hw; omega
          (refine bif_step (by first | assumption | exact decide_eq_true (by (first | omega | (simp only [true_and, and_true]; omega) | ((simp only [List.length_append, List.length_cons, List.length_nil, List.length_replicate, List.length_map, u8s_len, be_len, roomB_nat, roomB_val, maxLen_val, Nat.mul_one] at *); omega) | (simp only [true_and, and_true]; (simp only [List.length_append, List.length_cons, List.length_nil, List.length_replicate, List.length_map, u8s_len, be_len, roomB_nat, roomB_val, maxLen_val, Nat.mul_one] at *); omega)))) ?_)
          (refine bif_step (by first | assumption | exact decide_eq_true (by (first | omega | (simp only [true_and, and_true]; omega) | ((simp only [List.length_append, List.length_cons, List.length_nil, List.length_replicate, List.length_map, u8s_len, be_len, roomB_nat, roomB_val, maxLen_val, Nat.mul_one] at *); omega) | (simp only [true_and, and_true]; (simp only [List.length_append, List.length_cons, List.length_nil, List.length_replicate, List.length_map, u8s_len, be_len, roomB_nat, roomB_val, maxLen_val, Nat.mul_one] at *); omega)))) ?_)
          refine bif_step (decide_eq_true h1) ?_
          refine bif_stepF (by rw [h2]; rfl) (bif_step hx ?_)
          rw [fieldL_len, wadd1 (by omega), wadd (by omega)]
        · omega
      · refine .inr ⟨_, _, if_neg h2, by simp, ht.trans ?_⟩
        (refine bif_step (by first | assumption | exact decide_eq_true (by (first | omega | (simp only [true_and, and_true]; omega) | ((simp only [List.length_append, List.length_cons, List.length_nil, List.length_replicate, List.length_map, u8s_len, be_len, roomB_nat, roomB_val, maxLen_val, Nat.mul_one] at *); omega) | (simp only [true_and, and_true]; (simp only [List.length_append, List.length_cons, List.length_nil, List.length_replicate, List.length_map, u8s_len, be_len, roomB_nat, roomB_val, maxLen_val, Nat.mul_one] at *); omega)))) ?_)
        (refine bif_step (by first | assumption | exact decide_eq_true (by (first | omega | (simp only [true_and, and_true]; omega) | ((simp only [List.length_append, List.length_cons, List.length_nil, List.length_replicate, List.length_map, u8s_len, be_len, roomB_nat, roomB_val, maxLen_val, Nat.mul_one] at *); omega) | (simp only [true_and, and_true]; (simp only [List.length_append, List.length_cons, List.length_nil, List.length_replicate, List.length_map, u8s_len, be_len, roomB_nat, roomB_val, maxLen_val, Nat.mul_one] at *); omega)))) ?_)
        refine bif_step (decide_eq_true h1) ?_
        exact bif_step (by rw [Bool.not_eq_true] at h2; rw [h2]; rfl) rfl
    · have h2 : ¬ goodX v = true := by simp only [goodX, decide_eq_true_eq]; omega
      refine .inr ⟨_, _, if_neg h2, by simp, ht.trans ?_⟩
      (refine bif_step (by first | assumption | exact decide_eq_true (by (first | omega | (simp only [true_and, and_true]; omega) | ((simp only [List.length_append, List.length_cons, List.length_nil, List.length_replicate, List.length_map, u8s_len, be_len, roomB_nat, roomB_val, maxLen_val, Nat.mul_one] at *); omega) | (simp only [true_and, and_true]; (simp only [List.length_append, List.length_cons, List.length_nil, List.length_replicate, List.length_map, u8s_len, be_len, roomB_nat, roomB_val, maxLen_val, Nat.mul_one] at *); omega)))) ?_)
      (refine bif_step (by first | assumption | exact decide_eq_true (by (first | omega | (simp only [true_and, and_true]; omega) | ((simp only [List.length_append, List.length_cons, List.length_nil, List.length_replicate, List.length_map, u8s_len, be_len, roomB_nat, roomB_val, maxLen_val, Nat.mul_one] at *); omega) | (simp only [true_and, and_true]; (simp only [List.length_append, List.length_cons, List.length_nil, List.length_replicate, List.length_map, u8s_len, be_len, roomB_nat, roomB_val, maxLen_val, Nat.mul_one] at *); omega)))) ?_)
      exact bif_stepF (decide_eq_false h1) rfl
  · intro n hn
    refine (rr_in p e n p.xs.length fieldC fieldL macC1 macC2 macL).trans ?_
    (refine bif_stepF (by first | assumption | exact decide_eq_false (by (first | omega | (simp only [true_and, and_true]; omega) | ((simp only [List.length_append, List.length_cons, List.length_nil, List.length_replicate, List.length_map, u8s_len, be_len, roomB_nat, roomB_val, maxLen_val, Nat.mul_one] at *); omega) | (simp only [true_and, and_true]; (simp only [List.length_append, List.length_cons, List.length_nil, List.length_replicate, List.length_map, u8s_len, be_len, roomB_nat, roomB_val, maxLen_val, Nat.mul_one] at *); omega)))) ?_)
    rw [hl]
def rrD1 (p : PK) (n i : Int) : Bool := decide (n = 48 + p.macN ∧ i = 0) && (p.fine && p.xs.all goodX)
def rrD2 (p : PK) (n i : Int) : Bool := decide (n = 48 + p.macN ∧ i = 0) && (p.fine && !p.xs.all goodX)
def rrG1 (p : PK) (_n : Int) : Int := ((p.tot : Nat) : Int)
def rrG2 (p : PK) (_n : Int) : Int := ((rrEnd 0 (48 + p.macN) p.xs).1 : Int)
def rrG3 (p : PK) (_n : Int) : Int := ((rrEnd 0 (48 + p.macN) p.xs).2 : Int)
theorem macN_le {p : PK} (h : p.su.length ≤ 20000) : p.macN ≤ 20004 := by unfold PK.macN; cases p.ha <;> simp; omega
theorem rr_ls : LoopsOK Try.prog hint (acall Try.prog hint (ovrOf rrTab)) (ltab [(13, 122, LF 13 0 (rrL rrD1 rrG1 rrD2 rrG2 rrG3))]) := by
  refine ltab_cons (by kernel_rfl) (loopF_ok ?_) ltab_nil
  intro vs bx e vs' bx' h
  obtain ⟨b, n, i, p, rfl, rfl, rfl, h0⟩ := rrL_mem h
  rcases h0 with ⟨h1, rfl, rfl⟩ | ⟨h1, rfl, rfl⟩
  · simp only [rrD1, Bool.and_eq_true, decide_eq_true_eq] at h1
    obtain ⟨⟨rfl, rfl⟩, h2, h3⟩ := h1
    obtain ⟨k1, k2, k3, k4⟩ := fine_iff h2
    have := macN_le k3
    have := rr_runs (e := b) (n0 := 48 + p.macN) k1 k2 k4 (by omega)
    rw [rr_fold _ _ _ _, if_pos h3] at this
    exact this
  · simp only [rrD2, Bool.and_eq_true, decide_eq_true_eq, Bool.not_eq_true'] at h1
    obtain ⟨⟨rfl, rfl⟩, h2, h3⟩ := h1
    obtain ⟨k1, k2, k3, k4⟩ := fine_iff h2
    have := macN_le k3
    have := rr_runs (e := b) (n0 := 48 + p.macN) k1 k2 k4 (by omega)
    rw [rr_fold _ _ _ _, if_neg (by rw [h3]; simp)] at this
    exact this
theorem rright_known : Known Try.prog hint 13 (pkP PK.fine fun p => .int .i64 (rightG p)) := by
  refine known_of fits (spec := rrTab) rrTab_ok rr_ls ?_
  intro xs T v T1 h
  obtain ⟨p, rfl, rfl, hp, rfl, rfl⟩ := pkP_mem h
  obtain ⟨h1, h2, h3, h4⟩ := fine_iff hp
  have hk := pok_iff.1 h1
  refine ⟨30, (rr_all p rrD1 rrG1 rrD2 rrG2 rrG3 fieldC fieldL macC1 macC2 macL).trans ?_⟩
  have hn : ∀ n : Nat, n = p.macN → IntKind.i64.wrap (48 + (n : Int)) = 48 + (p.macN : Int) := by
    intro n hn
    have := macN_le h3
    rw [wrap_i64]; omega
  have e0 : ((bif !(decide ((0 : Int) ≤ p.le) && decide (p.le ≤ (3 : Int))) then true else p.ve != (4 : Int)) == false) = decide (0 ≤ p.le ∧ p.le ≤ 3 ∧ p.ve = 4) := by
    rw [Bool.eq_iff_iff]; simp [and_assoc]
  have e1 : ((bif false then true else !(decide ((1 : Int) ≤ p.mo) && decide (p.mo ≤ (5 : Int)))) == false) = decide (1 ≤ p.mo ∧ p.mo ≤ 5) := by
    rw [Bool.eq_iff_iff]; simp
  have e2 : ((bif false then true else !(decide ((0 : Int) ≤ p.st) && decide (p.st ≤ (16 : Int)))) == false) = decide (0 ≤ p.st ∧ p.st ≤ 16) := by
    rw [Bool.eq_iff_iff]; simp
  have e3 : ((bif false then true else !(decide ((0 : Int) ≤ p.po) && decide (p.po ≤ (17 : Int)))) == false) = decide (0 ≤ p.po ∧ p.po ≤ 17) := by
    rw [Bool.eq_iff_iff]; simp
  have e4 : (bif bif false then true else !(decide ((-128 : Int) ≤ p.pr) && decide (p.pr ≤ (127 : Int))) then true else decide ((↑p.es.length : Int) > (8 : Int))) = !decide (-128 ≤ p.pr ∧ p.pr ≤ 127 ∧ p.es.length ≤ 8) := by
    rw [Bool.eq_iff_iff]; simp; omega
  have no : p.headOK = false → some (IV.int .i64 (3 : Int), ([] : List Blk)) = some (.int .i64 (rightG p), []) := fun h => by simp [rightG, PK.right, h]
  rw [e0, e1, e2, e3, e4]
  by_cases q0 : 0 ≤ p.le ∧ p.le ≤ 3 ∧ p.ve = 4
  case neg => exact bif_stepF (decide_eq_false q0) (no (decide_eq_false (by omega)))
  by_cases q1 : 1 ≤ p.mo ∧ p.mo ≤ 5
  case neg => exact bif_step (decide_eq_true q0) (bif_stepF (decide_eq_false q1) (no (decide_eq_false (by omega))))
  by_cases q2 : 0 ≤ p.st ∧ p.st ≤ 16
  case neg => exact bif_step (decide_eq_true q0) (bif_step (decide_eq_true q1) (bif_stepF (decide_eq_false q2) (no (decide_eq_false (by omega)))))
  by_cases q3 : 0 ≤ p.po ∧ p.po ≤ 17
  case neg => exact bif_step (decide_eq_true q0) (bif_step (decide_eq_true q1) (bif_step (decide_eq_true q2) (bif_stepF (decide_eq_false q3) (no (decide_eq_false (by omega))))))
  refine bif_step (decide_eq_true q0) (bif_step (decide_eq_true q1) (bif_step (decide_eq_true q2) (bif_step (decide_eq_true q3) ?_)))
  by_cases q4 : -128 ≤ p.pr ∧ p.pr ≤ 127 ∧ p.es.length ≤ 8
  case neg => exact bif_step (by rw [decide_eq_false q4]; rfl) (no (decide_eq_false (by omega)))
  refine bif_stepF (by rw [decide_eq_true q4]; rfl) ?_
  have hhead : p.headOK = true := decide_eq_true (by omega)
  have d1 : rrD1 p (48 + (p.macN : Int)) 0 = p.xs.all goodX := by simp [rrD1, hp]
  have d2 : rrD2 p (48 + (p.macN : Int)) 0 = !p.xs.all goodX := by simp [rrD2, hp]
  have eg : ∀ n, rrG1 p n = ((p.tot : Nat) : Int) := fun _ => rfl
  have no2 : p.xs.all goodX = false → some (IV.int .i64 (3 : Int), ([] : List Blk)) = some (.int .i64 (rightG p), []) := fun h => by simp [rightG, PK.right, h]
  have yes : p.xs.all goodX = true → rightG p = bif p.macOK && decide (p.tot ≤ 8192) then 0 else 3 := fun h => by simp [rightG, PK.right, h, hhead]
  have body : (bif p.xs.all goodX then
      bif bif bif bif bif p.ha then (↑p.su.length : Int) != (0 : Int) else false then (↑p.su.length : Int) != (16 : Int) else false then true else bif !p.ha then bif decide ((↑p.su.length : Int) > (0 : Int)) then true else p.ky != (0 : Int) else false then true else decide (((p.tot : Nat) : Int) > (8192 : Int)) then
        some (IV.int IntKind.i64 (3 : Int), ([] : List Blk)) else some (IV.int IntKind.i64 (0 : Int), [])
      else bif !p.xs.all goodX then some (IV.int IntKind.i64 (3 : Int), []) else none) = some (.int .i64 (rightG p), []) := by
    cases hg : p.xs.all goodX
    · exact no2 hg
    · rw [yes hg]
      refine fin3 ?_
      unfold PK.macOK
      simp only [Bool.cond_true_left, Bool.cond_false_right]
      rw [Bool.eq_iff_iff]
      cases p.ha <;> simp [-List.length_eq_zero_iff] <;> omega
  cases ha : p.ha
  · have m0 : p.macN = 0 := by simp [PK.macN, ha]
    refine bif_step rfl ?_
    rw [hn 0 m0.symm, d1, d2, eg]
    rw [ha] at body
    exact body
  · have m0 : (macL p.ky p.su).length = p.macN := by simp [PK.macN, ha, macL, u8s_len, be_len]
    refine bif_stepF rfl (bif_step (decide_eq_true ⟨hk.1.2.1, h3⟩) ?_)
    rw [hn _ m0, d1, d2, eg]
    rw [ha] at body
    exact body
end
end Go.Proofs.Ytphddjolipaejaa
