/- Values' bytes: texts, and what fits a tag. It bears no condition. -/
import Derived.Test.YtolpgbgmldpneaaDrC
namespace Go.Proofs.Ytolpgbgmldpneaa
open Go Go.Im
set_option linter.unusedVariables false
set_option linter.unusedSimpArgs false
set_option maxRecDepth 20000
noncomputable section

theorem foldE_find {α R : Type} (f : α → Bool) (g : Nat → R) : ∀ (xs : List α) (i : Nat), foldE (fun i (_ : Unit) x => if f x = true then .inr (g i) else .inl ()) i () xs = match xs.findIdx? f with | none => .inl () | some j => .inr (g (j + i))
  | [], i => rfl
  | x :: xs, i => by
    unfold foldE
    rw [List.findIdx?_cons]
    cases h : f x
    · have ih := foldE_find f g xs (i + 1)
      simp only [Bool.false_eq_true, if_false]
      rw [ih]
      cases xs.findIdx? f with
      | none => rfl
      | some j => show Sum.inr (g (j + (i + 1))) = Sum.inr (g (j + 1 + i)); rw [Nat.add_assoc, Nat.add_comm i 1]
    · simp
theorem nthD_u8 {bs : List UInt8} {i : Nat} (h : i < bs.length) : nthD (u8s bs) ((i : Int)).toNat = .int .u8 (bs[i].toNat : Int) := by
  rw [nthD_at (by rw [u8s_len]; exact h)]; simp [u8s]
theorem cellI {k : IntKind} {n : Int} : nthD (IV.int k n).cells 0 = .int k n := Eq.trans rfl rfl
theorem intI {k : IntKind} {n : Int} : intOf (.int k n) = n := Eq.trans rfl rfl
theorem isI {k : IntKind} {n : Int} : isOf (.i k) (.int k n) = true := isOf_int
theorem bad_eq (c : UInt8) : (bif decide ((c.toNat : Int) < (32 : Int)) then true else decide ((c.toNat : Int) > (126 : Int))) = badC c := by
  unfold badC
  rw [Bool.eq_iff_iff]
  by_cases h1 : c.toNat < 32 <;> by_cases h2 : 126 < c.toNat <;> simp [h1, h2] <;> omega
theorem ix_runs {bs : List UInt8} (hl : bs.length ≤ 140737488355328) {nl : Option Bool} {cl : Bool} {z : Nat} (hz : z = 1 ∨ bs = []) :
    EachOK Try.prog hint (acall Try.prog hint (ovrOf fun _ => none)) 0 (hint.kp 62) (loopAt Try.prog 62 26) (Sx 62 (ixV nl cl z (u8s bs) 0 ((u8s bs).length : Int) ((0 : Nat) : Int)) []) (.exit 0)
      (fun _ : Unit => Sx 62 (ixV nl cl z (u8s bs) 0 ((u8s bs).length : Int) (bs.length : Int)) []) (foldE (fun i (_ : Unit) x => if badC x = true then .inr (Ex.ret, Sx 62 (ixV nl cl z (u8s bs) (i : Int) ((u8s bs).length : Int) (i : Int)) []) else .inl ()) 0 () bs) := by
  refine runs_each (X := Unit) (l := bs) (n := 30) (ls := fun _ _ => none) loops_none inner0 (fun i _ => Sx 62 (ixV nl cl z (u8s bs) 0 ((u8s bs).length : Int) (i : Int)) []) _
    (fun _ _ => True) (by simp) ?_ ?_ bs.length 0 () (by omega) trivial
  · intro i u hi _
    have hz1 : z = 1 := hz.resolve_right fun h => by rw [h] at hi; simp at hi
    have ht := ix_in nl cl z (u8s bs) ((u8s bs).length : Int) i
    rw [nthD_u8 hi, cellI, intI, wadd1 (by omega)] at ht
    replace ht := fun r q => ht.trans (bif_step (r := r) (decide_eq_true (by rw [u8s_len]; omega)) (bif_step (decide_eq_true ⟨hz1, by omega, by rw [u8s_len]; omega⟩) (bif_step isI q)))
    cases h : badC bs[i]
    · exact .inl ⟨(), if_neg (by simp), ht _ (bif_stepF ((bad_eq _).trans h) rfl), trivial⟩
    · exact .inr ⟨_, _, if_pos rfl, by simp, ht _ (bif_step ((bad_eq _).trans h) rfl)⟩
  · intro _ _
    have ht := ix_in nl cl z (u8s bs) ((u8s bs).length : Int) bs.length
    exact ht.trans (bif_stepF (decide_eq_false (by rw [u8s_len]; omega)) rfl)
theorem okz {z : Nat} {l : List IV} (h1 : z = 1 ∨ l.length = 0) (h2 : okB l = true) : ∃ bs, l = u8s bs ∧ (z = 1 ∨ bs = []) := by
  refine ⟨toBytes l, okB_eq h2, h1.imp id fun h => ?_⟩
  rw [List.length_eq_zero_iff.1 h]; rfl
theorem ix_known : Known Try.prog hint 62 (ixP cIx gIx) := by
  refine known_alt fits fun us T v T1 h => ?_
  unfold ixP at h
  split at h
  case h_2 => cases h
  rename_i nl cl z l
  simp only [List.mem_cons, List.not_mem_nil, or_false, Prod.mk.injEq, Bool.true_eq, cIx, Bool.and_eq_true, decide_eq_true_eq] at h
  obtain ⟨⟨⟨h1, h2⟩, h3⟩, rfl, rfl⟩ := h
  obtain ⟨bs, rfl, hz⟩ := okz h1 h3
  rw [u8s_len] at h2
  refine ⟨[[.fsl nl cl z (u8s bs), .fn 57 []]], by simp, Splits.self _, fun ys hy => ?_⟩
  rw [List.mem_singleton] at hy
  subst hy
  have q := ix_runs h2 (nl := nl) (cl := cl) hz
  rw [foldE_find badC (fun i => (Ex.ret, Sx 62 (ixV nl cl z (u8s bs) (i : Int) ((u8s bs).length : Int) (i : Int)) []))] at q
  unfold gIx
  rw [toBytes_u8s]
  cases hf : bs.findIdx? badC with
  | none =>
    rw [hf] at q
    have hls : LoopsOK Try.prog hint (acall Try.prog hint (ovrOf fun _ => none)) (ltab [(62, 26, LF 62 0 (oneF (ixV nl cl z (u8s bs) 0 ((u8s bs).length : Int) 0) [] (.exit 0) (ixV nl cl z (u8s bs) 0 ((u8s bs).length : Int) ((u8s bs).length : Int)) []))]) := by
      refine ltab_cons (by kernel_rfl) (loopF_ok fun vs bx e vs' bx' hm => ?_) ltab_nil
      obtain ⟨rfl, rfl, rfl, rfl, rfl⟩ := oneF_mem hm
      rw [u8s_len] at q ⊢
      exact q
    exact ⟨noGd_of rfl, fun _ => none, _, (fun f F h => by cases h), hls, 30, _, Wk.refl _, (ix_no nl cl z (u8s bs)).trans (bif_step sameS_t rfl)⟩
  | some j =>
    rw [hf] at q
    have hls : LoopsOK Try.prog hint (acall Try.prog hint (ovrOf fun _ => none)) (ltab [(62, 26, LF 62 0 (oneF (ixV nl cl z (u8s bs) 0 ((u8s bs).length : Int) 0) [] .ret (ixV nl cl z (u8s bs) (j : Int) ((u8s bs).length : Int) (j : Int)) []))]) := by
      refine ltab_cons (by kernel_rfl) (loopF_ok fun vs bx e vs' bx' hm => ?_) ltab_nil
      obtain ⟨rfl, rfl, rfl, rfl, rfl⟩ := oneF_mem hm
      exact q
    exact ⟨noGd_of rfl, fun _ => none, _, (fun f F h => by cases h), hls, 30, _, Wk.refl _, (ix_yes nl cl z (u8s bs) (j : Int)).trans (bif_step sameS_t rfl)⟩
def gHas (l : List IV) : Bool := (toBytes l).any badC
theorem any_idx {α : Type} (f : α → Bool) : ∀ l : List α, l.any f = decide ((match l.findIdx? f with | none => (-1 : Int) | some i => (i : Int)) ≥ 0)
  | [] => rfl
  | x :: l => by
    rw [List.any_cons, List.findIdx?_cons, any_idx f l]
    cases f x
    · simp only [Bool.false_or, Bool.false_eq_true, if_false]
      cases l.findIdx? f with
      | none => rfl
      | some i => simp only [Option.map_some]; rw [decide_eq_true (Int.natCast_nonneg _), decide_eq_true (Int.natCast_nonneg _)]
    · simp
theorem has_known : Known Try.prog hint 56 (hasP cIx gHas) := by
  refine known_of fits (spec := tab [(62, ixP cIx gIx)]) (tab_cons ix_known tab_nil) loops_none ?_
  (intro xs T v T1 h; unfold hasP at h; split at h; rotate_left; · cases h)
  rename_i nl cl z l
  simp only [List.mem_cons, List.not_mem_nil, or_false, Prod.mk.injEq, Bool.true_eq] at h
  obtain ⟨h1, rfl, rfl⟩ := h
  refine ⟨30, (has_tree cIx gIx nl cl z l).trans (bif_step h1 ?_)⟩
  congr 3
  unfold gHas
  rw [any_idx]
  rfl

/-! ### Fits -/
/-- Do the lowest bits of a byte say 0? -/
def lowB (x : UInt8) (n : Nat) : Bool := decide (x.toNat % 2 ^ n = 0)
def fitsB (t : Int) (b : List UInt8) : Bool :=
  bif t == 1 then (match b with | [x] => x.toNat == 0 || x.toNat == 255 | _ => false)
  else bif t == 2 then (match b with
    | [] => false
    | [_] => true
    | x :: y :: _ => !(x.toNat == 0 && decide (y.toNat < 128)) && !(x.toNat == 255 && decide (128 ≤ y.toNat)))
  else bif t == 3 then (match b with
    | [] => false
    | [x] => x.toNat == 0
    | x :: y :: r => decide (x.toNat < 8) && lowB ((y :: r).getLast (by simp)) x.toNat)
  else bif t == 4 then true
  else bif t == 5 then b.isEmpty
  else bif t == 12 then !b.any badC
  else false
end
end Go.Proofs.Ytolpgbgmldpneaa
