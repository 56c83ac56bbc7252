/- Values' bytes: the document's fits. It bears no condition. -/
import Derived.Test.YtolpgbgmldpneaaDrE
namespace Go.Proofs.Ytolpgbgmldpneaa
open Go Go.Im
set_option linter.unusedVariables false
set_option linter.unusedSimpArgs false
set_option maxRecDepth 20000
noncomputable section

/-! ### Low bits -/
def bitB (x : UInt8) (i : Nat) : Bool := decide (x.toNat / 2 ^ i % 2 = 1)
theorem bit_eq : ∀ (x : Fin 256) (i : Fin 8), (ibits BinOp.and IntKind.u8 (((x.val : Nat) : Int).fdiv ((2 : Int) ^ min (IntKind.u64.wrap ((i.val : Nat) : Int)).toNat (8 : Nat))) (1 : Int) == (1 : Int)) = decide (x.val / 2 ^ i.val % 2 = 1) := by decide +kernel
theorem bit_eq' {x : UInt8} {i : Nat} (h : i < 8) : (ibits BinOp.and IntKind.u8 ((x.toNat : Int).fdiv ((2 : Int) ^ min (IntKind.u64.wrap (i : Int)).toNat (8 : Nat))) (1 : Int) == (1 : Int)) = bitB x i := bit_eq ⟨x.toNat, x.toNat_lt⟩ ⟨i, h⟩
theorem low_any : ∀ (x : Fin 256) (n : Fin 9), ((List.range n.val).any fun i => decide (x.val / 2 ^ i % 2 = 1)) = !decide (x.val % 2 ^ n.val = 0) := by decide +kernel
theorem low_any' {x : UInt8} {n : Nat} (h : n ≤ 8) : (List.range n).any (bitB x) = !lowB x n := low_any ⟨x.toNat, x.toNat_lt⟩ ⟨n, by omega⟩
def cLo (x n : Int) : Bool := decide ((0 ≤ x ∧ x < 256) ∧ 0 ≤ n ∧ n ≤ 8)
def gLo (x n : Int) : Bool := lowB (u8of x) n.toNat
theorem low_runs (x : UInt8) {n : Nat} (hn : n ≤ 8) :
    EachOK Try.prog hint (acall Try.prog hint (ovrOf fun _ => none)) 0 (hint.kp 52) (loopAt Try.prog 52 26) (Sx 52 [.int .u8 (x.toNat : Int), .int .i64 (n : Int), .bool false, .int .i64 ((0 : Nat) : Int)] []) (.exit 0)
      (fun _ : Unit => Sx 52 [.int .u8 (x.toNat : Int), .int .i64 (n : Int), .bool false, .int .i64 (n : Int)] []) (foldE (fun i (_ : Unit) k => if bitB x k = true then .inr (Ex.ret, Sx 52 [.int .u8 (x.toNat : Int), .int .i64 (n : Int), .bool false, .int .i64 (i : Int)] []) else .inl ()) 0 () (List.range n)) := by
  refine runs_each (X := Unit) (l := List.range n) (n := 30) (ls := fun _ _ => none) loops_none inner0 (fun i _ => Sx 52 [.int .u8 (x.toNat : Int), .int .i64 (n : Int), .bool false, .int .i64 (i : Int)] []) _
    (fun _ _ => True) (by simp) ?_ ?_ (List.range n).length 0 () (by omega) trivial
  · intro i u hi _
    rw [List.length_range] at hi
    have ht := low_in (x.toNat : Int) n i
    rw [bit_eq' (by omega), wadd1 (by omega)] at ht
    have w : IntKind.u64.wrap (i : Int) = i := by rw [wrap_u64]; omega
    rw [w] at ht
    replace ht := fun r q => ht.trans (bif_step (r := r) (decide_eq_true (by omega)) (bif_step (decide_eq_true (by omega)) q))
    rw [List.getElem_range]
    cases h : bitB x i
    · exact .inl ⟨(), if_neg (by simp), ht _ (bif_stepF h rfl), trivial⟩
    · exact .inr ⟨_, _, if_pos rfl, by simp, ht _ (bif_step h rfl)⟩
  · intro _ _
    rw [List.length_range]
    have ht := low_in (x.toNat : Int) n n
    exact ht.trans (bif_stepF (decide_eq_false (by omega)) rfl)
theorem low_known : Known Try.prog hint 52 (lowP cLo gLo) := by
  refine known_alt fits fun us T v T1 h => ?_
  unfold lowP at h
  split at h
  case h_2 => cases h
  rename_i x0 n0
  simp only [List.mem_cons, List.not_mem_nil, or_false, Prod.mk.injEq, Bool.true_eq, cLo, decide_eq_true_eq] at h
  obtain ⟨⟨⟨h1, h2⟩, h3, h4⟩, rfl, rfl⟩ := h
  obtain ⟨n, rfl⟩ : ∃ n : Nat, n0 = n := ⟨n0.toNat, by omega⟩
  obtain ⟨x, rfl⟩ : ∃ x : UInt8, x0 = (x.toNat : Int) := ⟨u8of x0, by rw [u8of_toNat]; omega⟩
  have hx : u8of (x.toNat : Int) = x := by
    have := u8of_toNat (x.toNat : Int)
    have h5 : ((u8of (x.toNat : Int)).toNat : Int) = x.toNat := by rw [this]; omega
    exact UInt8.toNat_inj.1 (by omega)
  refine ⟨[[.int .u8 (x.toNat : Int), .int .i64 (n : Int)]], by simp, Splits.self _, fun ys hy => ?_⟩
  rw [List.mem_singleton] at hy
  subst hy
  have q := low_runs x (n := n) (by omega)
  have ha := low_any' (x := x) (n := n) (by omega)
  unfold gLo
  rw [hx, Int.toNat_natCast]
  rw [any_idx] at ha
  rw [foldE_find (bitB x) (fun i => (Ex.ret, Sx 52 [.int .u8 (x.toNat : Int), .int .i64 (n : Int), .bool false, .int .i64 (i : Int)] []))] at q
  cases hf : (List.range n).findIdx? (bitB x) with
  | none =>
    rw [hf] at q ha
    have e : lowB x n = true := by cases h : lowB x n; · rw [h] at ha; cases ha
                                   · rfl
    rw [e]
    have hls : LoopsOK Try.prog hint (acall Try.prog hint (ovrOf fun _ => none)) (ltab [(52, 26, LF 52 0 (oneF [.int .u8 (x.toNat : Int), .int .i64 (n : Int), .bool false, .int .i64 0] [] (.exit 0) [.int .u8 (x.toNat : Int), .int .i64 (n : Int), .bool false, .int .i64 (n : Int)] []))]) := by
      refine ltab_cons (by kernel_rfl) (loopF_ok fun vs bx e vs' bx' hm => ?_) ltab_nil
      obtain ⟨rfl, rfl, rfl, rfl, rfl⟩ := oneF_mem hm
      exact q
    exact ⟨noGd_of rfl, fun _ => none, _, (fun f F h => by cases h), hls, 30, _, Wk.refl _, (low_no (x.toNat : Int) n).trans (bif_step sameS_t rfl)⟩
  | some j =>
    rw [hf] at q ha
    simp only at ha
    have e : lowB x n = false := by
      cases h : lowB x n
      · rfl
      · rw [h, decide_eq_true (Int.natCast_nonneg j)] at ha; cases ha
    rw [e]
    have hls : LoopsOK Try.prog hint (acall Try.prog hint (ovrOf fun _ => none)) (ltab [(52, 26, LF 52 0 (oneF [.int .u8 (x.toNat : Int), .int .i64 (n : Int), .bool false, .int .i64 0] [] .ret [.int .u8 (x.toNat : Int), .int .i64 (n : Int), .bool false, .int .i64 (j : Int)] []))]) := by
      refine ltab_cons (by kernel_rfl) (loopF_ok fun vs bx e vs' bx' hm => ?_) ltab_nil
      obtain ⟨rfl, rfl, rfl, rfl, rfl⟩ := oneF_mem hm
      exact q
    exact ⟨noGd_of rfl, fun _ => none, _, (fun f F h => by cases h), hls, 30, _, Wk.refl _, (low_yes (x.toNat : Int) n j).trans (bif_step sameS_t rfl)⟩

/-! ### The document's fits -/
abbrev tabF : FuncId → Option SpecF := tab [(52, lowP cLo gLo)]
theorem tabF_ok : ∀ f F, tabF f = some F → Known Try.prog hint f F := tab_cons low_known tab_nil
theorem rit_runs {bs : List UInt8} (hl : bs.length ≤ 140737488355328) {nl : Option Bool} {cl : Bool} {z : Nat} (hz : z = 1 ∨ bs = []) :
    EachOK Try.prog hint (acall Try.prog hint (ovrOf tabF)) 0 (hint.kp 39) (loopAt Try.prog 39 1933298) (Sx 39 (riV nl cl z (u8s bs) false ((u8s bs).length : Int) (.int .i64 ((0 : Nat) : Int))) []) (.exit 1)
      (fun _ : Unit => Sx 39 (riV nl cl z (u8s bs) false ((u8s bs).length : Int) (.int .i64 (bs.length : Int))) []) (foldE (fun i (_ : Unit) x => if badC x = true then .inr (Ex.ret, Sx 39 (riV nl cl z (u8s bs) false ((u8s bs).length : Int) (.int .i64 (i : Int))) []) else .inl ()) 0 () bs) := by
  refine runs_each (X := Unit) (l := bs) (n := 30) (ls := fun _ _ => none) loops_none inner0 (fun i _ => Sx 39 (riV nl cl z (u8s bs) false ((u8s bs).length : Int) (.int .i64 (i : Int))) []) _
    (fun _ _ => True) (by simp) ?_ ?_ bs.length 0 () (by omega) trivial
  · intro i u hi _
    have hz1 : z = 1 := hz.resolve_right fun h => by rw [h] at hi; simp at hi
    have ht := rit_in cLo gLo nl cl z (u8s bs) ((u8s bs).length : Int) i
    rw [nthD_u8 hi, cellI, intI, wadd1 (by omega)] at ht
    have c1 : decide (z = 1 ∧ (0 : Int) ≤ (i : Int) ∧ (i : Int) < ((u8s bs).length : Int)) = true := decide_eq_true ⟨hz1, by omega, by rw [u8s_len]; omega⟩
    replace ht := fun r q => ht.trans (bif_step (r := r) (decide_eq_true (by rw [u8s_len]; omega)) (bif_step c1 (bif_step isI q)))
    have hb : badC bs[i] = (decide (((bs[i].toNat : Nat) : Int) < (32 : Int)) || decide (((bs[i].toNat : Nat) : Int) > (126 : Int))) := by
      rw [← bad_eq]; cases decide (((bs[i].toNat : Nat) : Int) < (32 : Int)) <;> rfl
    cases h1 : decide (((bs[i].toNat : Nat) : Int) < (32 : Int))
    · rw [h1, Bool.false_or] at hb
      cases h2 : decide (((bs[i].toNat : Nat) : Int) > (126 : Int))
      · exact .inl ⟨(), if_neg (by rw [hb, h2]; simp), ht _ (bif_step (by rw [h1]; rfl) (bif_step c1 (bif_step isI (bif_stepF (by rw [h2]; rfl) rfl)))), trivial⟩
      · exact .inr ⟨_, _, if_pos (by rw [hb, h2]), by simp, ht _ (bif_step (by rw [h1]; rfl) (bif_step c1 (bif_step isI (bif_step (by rw [h2]; rfl) rfl))))⟩
    · exact .inr ⟨_, _, if_pos (by rw [hb, h1]; rfl), by simp, ht _ (bif_stepF (by rw [h1]; rfl) rfl)⟩
  · intro _ _
    have ht := rit_in cLo gLo nl cl z (u8s bs) ((u8s bs).length : Int) bs.length
    exact ht.trans (bif_stepF (decide_eq_false (by rw [u8s_len]; omega)) rfl)
end
end Go.Proofs.Ytolpgbgmldpneaa
