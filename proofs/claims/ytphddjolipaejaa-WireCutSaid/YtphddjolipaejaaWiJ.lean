/- Packets are held against each other, copied and written: what is proved of the given program. It bears no condition. -/
import Derived.Test.YtphddjolipaejaaWiI
namespace Go.Proofs.Ytphddjolipaejaa
open Go Go.Im
set_option linter.unusedVariables false
set_option linter.unusedSimpArgs false
noncomputable section

theorem same_known : Known Try.prog hint 14 (ppP (fun p q => p.ok && q.ok) PK.same) := by
  refine known_of fits (spec := smTab) smTab_ok sm_ls ?_
  intro xs T v T1 h
  obtain ⟨p, q, rfl, rfl, hp, rfl, rfl⟩ := ppP_mem h
  simp only [Bool.and_eq_true] at hp
  obtain ⟨hp, hq⟩ := hp
  have kp := pok_iff.1 hp
  have kq := pok_iff.1 hq
  refine ⟨30, (sm_all p q smD1 smD2 smG (fun x y => x.ok && y.ok) sameX).trans ?_⟩
  have no : p.headEq q = false → some (IV.bool false, ([] : List Blk)) = some (.bool (p.same q), []) := fun h => by simp [PK.same, h]
  have sT : ∀ {b : Bool} {P : Prop}, (b = true ↔ P) → P → b = true := fun h k => h.2 k
  by_cases hA : p.le = q.le ∧ p.ve = q.ve ∧ p.mo = q.mo ∧ p.st = q.st ∧ p.po = q.po ∧ p.pr = q.pr
  case neg =>
    refine bif_step ?_ (no (decide_eq_false (by omega)))
    simp only [Bool.cond_true_left, Bool.or_eq_true, bne_iff_ne]
    omega
  refine bif_stepF ?_ ?_
  · rw [Bool.eq_false_iff]
    simp only [Bool.cond_true_left, ne_eq, Bool.or_eq_true, bne_iff_ne]
    omega
  by_cases hB : p.de = q.de ∧ p.di = q.di ∧ p.ri = q.ri ∧ p.rf = q.rf ∧ p.og = q.og ∧ p.rc = q.rc ∧ p.xm = q.xm ∧ p.es.length = q.es.length
  case neg =>
    refine bif_step ?_ (no (decide_eq_false (by omega)))
    simp only [Bool.cond_true_left, Bool.or_eq_true, bne_iff_ne]
    omega
  refine bif_stepF ?_ ?_
  · rw [Bool.eq_false_iff]
    simp only [Bool.cond_true_left, ne_eq, Bool.or_eq_true, bne_iff_ne]
    omega
  have hh : p.headEq q = true := decide_eq_true (by omega)
  have d1 : smD1 p q 0 = allSame (p.xs.zip q.xs) := by simp [smD1, hp, hq, hB]
  have d2 : smD2 p q 0 = !allSame (p.xs.zip q.xs) := by simp [smD2, hp, hq, hB]
  rw [d1, d2]
  cases hs : allSame (p.xs.zip q.xs)
  · simp [PK.same, hs]
  · refine bif_step rfl (bif_step ?_ (bif_step ?_ ?_))
    · rw [decide_eq_true kp.1.2.1, isBytes_ok kp.2.1]; rfl
    · rw [decide_eq_true kq.1.2.1, isBytes_ok kq.2.1]; rfl
    · simp only [PK.same, hs, hh, Bool.cond_false_right, Bool.true_and]

/-! ### Copy -/
def cpX (v : XV) : XV := { v with n1 := none, c1 := false, z1 := 1, n2 := none, c2 := false, z2 := 1 }
def cpES (p : PK) : List IV := (p.xs.map cpX).map XV.iv
theorem cp_runs {p q r : PK} (hp : p.ok = true) (hl : p.es.length ≤ 20) (hw : ∀ v ∈ p.xs, wt v ≤ 20000) :
    EachOK Try.prog hint PCall 0 (hint.kp 9) (loopAt Try.prog 9 122) (Sx 9 [.ptr 0 0, .ptr 1 0, .ptr 2 0, .int .i64 ((0 : Nat) : Int)] [.var false p.cells, .var false q.cells, .var false r.cellsO, .row 0 false 8 []]) (.exit 0)
      (fun l : List IV => Sx 9 [.ptr 0 0, .ptr 1 0, .ptr 2 0, .int .i64 (p.es.length : Int)] [.var false p.cells, .var false q.cells, .var false r.cellsO, .row 0 false 8 l]) (foldE (fun _ (l : List IV) (v : XV) => .inl (l ++ [(cpX v).iv])) 0 [] p.xs) := by
  have l1 := p.xs_len
  refine runs_each (X := List IV) (l := p.xs) (n := 30) (ls := fun _ _ => none) loops_none inner0 (fun i l => Sx 9 [.ptr 0 0, .ptr 1 0, .ptr 2 0, .int .i64 (i : Int)] [.var false p.cells, .var false q.cells, .var false r.cellsO, .row 0 false 8 l]) _
    (fun i l => l.length = i) (e := .exit 0) (by simp) ?_ ?_ p.xs.length 0 [] (by omega) rfl
  · intro i l hi hn
    have ht := cp_in p q r i l
    have hok := ok_iff.1 ((pk_es hp).2 _ (List.getElem_mem hi))
    have hz := pk_z hp hi
    rw [pk_nth hp hi] at ht
    have hww := hw _ (List.getElem_mem hi)
    generalize p.xs[i] = v at *
    unfold wt at hww
    have k1 : (0 + (rowL (nthD v.iv.cells 6)).length) * 1 ≤ roomB ∧ 0 + (rowL (nthD v.iv.cells 6)).length ≤ maxLen := by
      show (0 + v.l1.length) * 1 ≤ roomB ∧ 0 + v.l1.length ≤ maxLen
      (simp only [List.length_append, List.length_cons, List.length_nil, List.length_replicate, List.length_map, u8s_len, be_len, roomB_nat, roomB_val, maxLen_val, Nat.mul_one] at *); omega
    have k2 : (0 + (rowL (nthD v.iv.cells 7)).length) * 1 ≤ roomB ∧ 0 + (rowL (nthD v.iv.cells 7)).length ≤ maxLen := by
      show (0 + v.l2.length) * 1 ≤ roomB ∧ 0 + v.l2.length ≤ maxLen
      (simp only [List.length_append, List.length_cons, List.length_nil, List.length_replicate, List.length_map, u8s_len, be_len, roomB_nat, roomB_val, maxLen_val, Nat.mul_one] at *); omega
    have k3 : ∀ x : IV, (l.length + [x].length) * 80 ≤ roomB ∧ l.length + [x].length ≤ maxLen := by
      intro x
      (simp only [List.length_append, List.length_cons, List.length_nil, List.length_replicate, List.length_map, u8s_len, be_len, roomB_nat, roomB_val, maxLen_val, Nat.mul_one] at *); omega
    refine .inl ⟨_, rfl, ht.trans ?_, by simp [hn]⟩
    (refine bif_step (by first | assumption | exact decide_eq_true (by (first | omega | (simp only [true_and, and_true]; omega) | ((simp only [List.length_append, List.length_cons, List.length_nil, List.length_replicate, List.length_map, u8s_len, be_len, roomB_nat, roomB_val, maxLen_val, Nat.mul_one] at *); omega) | (simp only [true_and, and_true]; (simp only [List.length_append, List.length_cons, List.length_nil, List.length_replicate, List.length_map, u8s_len, be_len, roomB_nat, roomB_val, maxLen_val, Nat.mul_one] at *); omega)))) ?_)
    (refine bif_step (by first | assumption | exact decide_eq_true (by (first | omega | (simp only [true_and, and_true]; omega) | ((simp only [List.length_append, List.length_cons, List.length_nil, List.length_replicate, List.length_map, u8s_len, be_len, roomB_nat, roomB_val, maxLen_val, Nat.mul_one] at *); omega) | (simp only [true_and, and_true]; (simp only [List.length_append, List.length_cons, List.length_nil, List.length_replicate, List.length_map, u8s_len, be_len, roomB_nat, roomB_val, maxLen_val, Nat.mul_one] at *); omega)))) ?_)
    refine bif_step (xt v) ?_
    refine bif_step (decide_eq_true hok.1.1) ?_
    refine bif_step (decide_eq_true ⟨.inr rfl, .inl rfl, k1⟩) ?_
    refine bif_step (decide_eq_true hok.1.2.1) ?_
    refine bif_step (decide_eq_true ⟨.inr rfl, .inl rfl, k2⟩) ?_
    refine bif_step (decide_eq_true (k3 _)) ?_
    rw [wadd1 (by omega)]
    rfl
  · intro l hn
    refine (cp_in p q r p.xs.length l).trans ?_
    (refine bif_stepF (by first | assumption | exact decide_eq_false (by (first | omega | (simp only [true_and, and_true]; omega) | ((simp only [List.length_append, List.length_cons, List.length_nil, List.length_replicate, List.length_map, u8s_len, be_len, roomB_nat, roomB_val, maxLen_val, Nat.mul_one] at *); omega) | (simp only [true_and, and_true]; (simp only [List.length_append, List.length_cons, List.length_nil, List.length_replicate, List.length_map, u8s_len, be_len, roomB_nat, roomB_val, maxLen_val, Nat.mul_one] at *); omega)))) ?_)
    rw [l1]
theorem cp_fold : ∀ (vs : List XV) (l : List IV), vs.foldl (fun l v => l ++ [(cpX v).iv]) l = l ++ (vs.map cpX).map XV.iv
  | [], l => by simp
  | v :: vs, l => by rw [List.foldl_cons, cp_fold vs]; simp
def cpD (p : PK) (l : List IV) (i : Int) : Bool := decide (l.length = 0 ∧ i = 0) && p.fine
theorem cp_ls : LoopsOK Try.prog hint PCall (ltab [(9, 122, LF 9 0 (cpL cpD fun p _ => cpES p))]) := by
  refine ltab_cons (by kernel_rfl) (loopF_ok ?_) ltab_nil
  intro vs bx e vs' bx' h
  obtain ⟨i, p, q, r, l, rfl, rfl, h1, rfl, rfl, rfl⟩ := cpL_mem h
  simp only [cpD, Bool.and_eq_true, decide_eq_true_eq] at h1
  obtain ⟨⟨h1, rfl⟩, h2⟩ := h1
  obtain rfl := List.eq_nil_of_length_eq_zero h1
  obtain ⟨k1, k2, k3, k4⟩ := fine_iff h2
  have := cp_runs (q := q) (r := r) k1 k2 k4
  rw [foldE_inl (g := fun l v => l ++ [(cpX v).iv]) (fun _ _ _ => rfl), cp_fold] at this
  exact this
theorem copy_known : Known Try.prog hint 9 (cpP PK.fine cpES PK.su) := by
  refine known_of fits (spec := tab []) tab_nil cp_ls ?_
  intro xs T v T1 h
  obtain ⟨p, rfl, rfl, hp, rfl, rfl⟩ := cpP_mem h
  have hk := (pok_iff.1 (fine_iff hp).1).1
  have hs := (fine_iff hp).2.2.1
  refine ⟨30, (cp_all p cpD fun p _ => cpES p).trans ?_⟩
  refine bif_step (by simp [cpD, hp]) (bif_step (decide_eq_true hk.2.1) (bif_step (decide_eq_true ⟨.inr rfl, .inl rfl, ?_⟩) rfl))
  (simp only [List.length_append, List.length_cons, List.length_nil, List.length_replicate, List.length_map, u8s_len, be_len, roomB_nat, roomB_val, maxLen_val, Nat.mul_one] at *)
  omega
end
end Go.Proofs.Ytphddjolipaejaa
