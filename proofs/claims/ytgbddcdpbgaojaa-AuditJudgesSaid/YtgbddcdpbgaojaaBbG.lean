/- The document's fields: what is proved of the given program. It bears no condition. -/
import Derived.Test.YtgbddcdpbgaojaaBbF
namespace Go.Proofs.Ytgbddcdpbgaojaa
open Go Go.Im
set_option linter.unusedVariables false
set_option linter.unusedSimpArgs false
set_option maxRecDepth 20000
noncomputable section

/-! ### Numbers -/
theorem nu_run {nl : Option Bool} {cl : Bool} {xs : List UInt8} (hx : xs.length ≤ 8) : ∀ (j i : Nat), i + j = xs.length →
    Runs Try.prog hint PCall 0 (hint.kp 39) (loopAt Try.prog 39 58) (Sx 39 [.fsl nl cl 1 (u8s xs), .int .u64 ((numL (xs.take i) : Nat) : Int), .int .i64 (i : Int)] []) (.exit 0)
      (Sx 39 [.fsl nl cl 1 (u8s xs), .int .u64 ((numL xs : Nat) : Int), .int .i64 (xs.length : Int)] [])
  | 0, i, h => by
    refine Runs.last (n := 30) (ls := fun _ _ => none) loops_none inner0 (by simp) ((nu_in ..).trans ?_)
    rw [bif_f (by rw [u8s_len]; omega), show i = xs.length by omega, List.take_length]
  | j + 1, i, h => by
    have hi : i < xs.length := by omega
    refine Runs.step (n := 30) (ls := fun _ _ => none) loops_none inner0 ((nu_in ..).trans ?_) (nu_run hx j (i + 1) (by omega))
    have w : IntKind.i64.wrap ((i : Int) + 1) = ((i + 1 : Nat) : Int) := by rw [wrap_i64]; omega
    simp only [u8s_len, Int.toNat_natCast, w]
    rw [u8s_nth hi, cell_int, isOf_int, intOf_int, bif_t (show (i : Int) < xs.length by omega)]
    rw [bif_t (by (first | omega | (simp only [true_and, and_true]; omega) | ((simp only [List.length_append, List.length_cons, List.length_nil, List.length_replicate, List.length_map, u8s_len, be_len, roomB_nat, roomB_val, maxLen_val, Nat.mul_one] at *); omega) | (simp only [true_and, and_true]; (simp only [List.length_append, List.length_cons, List.length_nil, List.length_replicate, List.length_map, u8s_len, be_len, roomB_nat, roomB_val, maxLen_val, Nat.mul_one] at *); omega))), cond_true]
    have hb := (xs.getD i 0).toNat_lt
    have hp : numL (xs.take i) < 256 ^ 7 := Nat.lt_of_lt_of_le (numL_lt _) (Nat.pow_le_pow_right (by decide) (by simp; omega))
    have e256 : (256 : Nat) ^ 7 = 72057594037927936 := by decide
    rw [e256] at hp
    have e : xs.take (i + 1) = xs.take i ++ [xs.getD i 0] := by
      rw [List.take_succ_eq_append_getElem hi, List.getD_eq_getElem?_getD, List.getElem?_eq_getElem hi]; rfl
    rw [e, numL_snoc]
    have w2 : IntKind.u64.wrap (IntKind.u64.wrap (256 * ((numL (xs.take i) : Nat) : Int)) + IntKind.u64.wrap ((xs.getD i 0).toNat : Int)) = ((numL (xs.take i) * 256 + (xs.getD i 0).toNat : Nat) : Int) := by
      rw [wrap_u64, wrap_u64, wrap_u64]; omega
    rw [w2]
theorem num_known : Known Try.prog hint 39 (getP getFC getFG) := by
  refine known_of fits (spec := tab []) tab_nil (ls := ltab [(39, 58, LF 39 0 (nuL (fun xs n i => decide (xs.length ≤ 8 ∧ n = 0 ∧ i = 0) && okB xs) getFG))]) (ltab_cons (by kernel_rfl) (loopF_ok ?_) ltab_nil) ?_
  · (intro vs bx e vs' bx' h; unfold nuL getFG at h; split at h; rotate_left; · cases h)
    rename_i nl cl xs n i
    (simp only [List.mem_cons, List.not_mem_nil, or_false, Prod.mk.injEq, Bool.true_eq, Bool.and_eq_true, decide_eq_true_eq] at h; obtain ⟨h1, rfl, rfl, rfl⟩ := h)
    obtain ⟨⟨h1, rfl, rfl⟩, h2⟩ := h1
    have e := okB_eq h2
    generalize toBytes xs = bs at e
    subst e
    rw [u8s_len] at h1 ⊢
    exact nu_run (nl := nl) (cl := cl) h1 bs.length 0 (by omega)
  (intro xs T v T1 h; unfold getP getFC at h; split at h; rotate_left; · cases h)
  rename_i nl cl xs
  (simp only [List.mem_cons, List.not_mem_nil, or_false, Prod.mk.injEq, Bool.true_eq, Bool.and_eq_true, decide_eq_true_eq] at h; obtain ⟨h1, rfl, rfl⟩ := h)
  refine ⟨30, (nu_all nl cl xs _ _).trans ?_⟩
  have e : (decide (xs.length ≤ 8 ∧ (0 : Int) = 0 ∧ (0 : Int) = 0) && okB xs) = true := by rw [h1.2]; simp [h1.1]
  exact (congrArg (fun c => cond c _ _) e)

/-! ### What one comes to -/
def zX : XV := ⟨0, false, false, 0, 0, 0, none, false, 1, [], none, false, 1, []⟩
def reB (L : List IV) : Bool := @decide (re1 L ∧ re2 L) (Classical.propDecidable _)
def oX (l : List IV) (k : Int) : XV := bif reB (l.drop k.toNat) then pX (l.drop k.toNat) else zX
def oN (l : List IV) (k : Int) : Int := bif reB (l.drop k.toNat) then (pN (l.drop k.toNat) : Int) else 0
def oK (l : List IV) (k : Int) : Bool := bif reB (l.drop k.toNat) then (bif decide (0 < pA (l.drop k.toNat)) then toBytes (fieldL (pX (l.drop k.toNat))) == toBytes ((l.drop k.toNat).take (pN (l.drop k.toNat))) else false) else false
def oC (l : List IV) (k : Int) : Bool := decide (0 ≤ k ∧ k ≤ l.length ∧ l.length ≤ 100000) && okB l
theorem lf_nat {l : List IV} {k : Nat} (h : k ≤ l.length) : lf (k : Int) l = l.drop k := by
  unfold lf
  rw [Int.toNat_natCast, Int.toNat_natCast, List.take_of_length_le (by rw [List.length_drop]; omega)]
theorem getFG_num (xs : List IV) : getFG xs = ((numL (toBytes xs) : Nat) : Int) := rfl
theorem nN_eq {l : List IV} {k : Nat} (h : k ≤ l.length) : nN getFG (k : Int) l = (pN (l.drop k) : Int) := by
  unfold nN pN
  rw [lf_nat h, getFG_num]
  have := num2_lt ((l.drop k).drop 2)
  rw [wrap_i64]; omega
theorem vN_eq {l : List IV} {k : Nat} (h : k ≤ l.length) : vN getFG (k : Int) l = (pV (l.drop k) : Int) := by
  unfold vN pV
  rw [lf_nat h, getFG_num]
theorem pV_lt (L : List IV) : pV L < 4294967296 := num4_lt _
theorem pS_lt (L : List IV) : pS L < 4294967296 := num4_lt _
theorem wN_eq {l : List IV} {k : Nat} (h : k ≤ l.length) : wN getFG (k : Int) l = (pV (l.drop k) : Int) := by
  unfold wN
  rw [vN_eq h]
  have := pV_lt (l.drop k)
  rw [wrap_i64]; omega
theorem toN_eq {l : List IV} {k : Nat} (h : k ≤ l.length) : toN fillG getFG (k : Int) l = (pT (l.drop k) : Int) := by
  unfold toN pT
  rw [wN_eq h, fillG_nat]
  have := pV_lt (l.drop k)
  have := fillN_lt (pV (l.drop k))
  rw [wrap_i64, wrap_i64]; omega
theorem to4_eq {l : List IV} {k : Nat} (h : k ≤ l.length) : to4 fillG getFG (k : Int) l = ((pT (l.drop k) + 4 : Nat) : Int) := by
  unfold to4
  rw [toN_eq h]
  have := pV_lt (l.drop k)
  have := fillN_lt (pV (l.drop k))
  have : pT (l.drop k) = 20 + (pV (l.drop k) + fillN (pV (l.drop k))) := rfl
  rw [wrap_i64]; omega
theorem sN_eq {l : List IV} {k : Nat} (h : k ≤ l.length) : sN fillG getFG (k : Int) l = (pS (l.drop k) : Int) := by
  unfold sN pS
  rw [toN_eq h, to4_eq h, lf_nat h, getFG_num, Int.toNat_natCast, Int.toNat_natCast, Nat.add_sub_cancel_left]
theorem tS_eq {l : List IV} {k : Nat} (h : k ≤ l.length) : tS fillG getFG (k : Int) l = ((pT (l.drop k) + 4 + pS (l.drop k) : Nat) : Int) := by
  unfold tS
  rw [to4_eq h, sN_eq h]
  have := pV_lt (l.drop k)
  have := pS_lt (l.drop k)
  have := fillN_lt (pV (l.drop k))
  have : pT (l.drop k) = 20 + (pV (l.drop k) + fillN (pV (l.drop k))) := rfl
  rw [wrap_i64, wrap_i64]; omega
theorem fN_eq {l : List IV} {k : Nat} (h : k ≤ l.length) : fN (k : Int) l = byI (l.drop k) 0 := by
  unfold fN byI
  rw [lf_nat h]
theorem vO1_eq {l : List IV} {k : Nat} (h : k ≤ l.length) : vO1 getFG (k : Int) l = ((l.drop k).drop 20).take (pV (l.drop k)) := by
  unfold vO1
  rw [vN_eq h, lf_nat h]
  have := pV_lt (l.drop k)
  congr 1
  rw [wrap_u64]; omega
theorem vO2_eq {l : List IV} {k : Nat} (h : k ≤ l.length) : vO2 fillG getFG (k : Int) l = ((l.drop k).drop (pT (l.drop k) + 4)).take (pS (l.drop k)) := by
  unfold vO2
  rw [tS_eq h, to4_eq h, lf_nat h, Int.toNat_natCast, Int.toNat_natCast, Nat.add_sub_cancel_left]
theorem xO1_eq {l : List IV} {k : Nat} (h : k ≤ l.length) : xO1 fillG getFG (k : Int) l = pX (l.drop k) := by
  unfold xO1
  rw [fN_eq h, vO1_eq h, vO2_eq h, lf_nat h]
  rfl
theorem isBytes_app {a b : List IV} (ha : isBytes a = true) (hb : isBytes b = true) : isBytes (a ++ b) = true := by
  induction a with
  | nil => exact hb
  | cons x a ih =>
    unfold isBytes at ha
    split at ha
    · rename_i heq
      cases heq
    · rename_i heq
      cases heq
      simpa [isBytes] using ih ha
    · cases ha
theorem isBytes_data {l : List IV} (h : okB l = true) : isBytes (dataL l) = true := by
  refine isBytes_app (isBytes_app (isBytes_u8s _) (isBytes_ok h)) ?_
  have : ∀ n, isBytes (List.replicate n (IV.int .u8 0)) = true := by
    intro n
    induction n with
    | zero => rfl
    | succ n ih => simpa [List.replicate_succ, isBytes] using ih
  exact this _
theorem isBytes_field {v : XV} (h : v.ok = true) : isBytes (fieldL v) = true := by
  have := ok_iff.1 h
  exact isBytes_app (isBytes_app (isBytes_app (isBytes_app (isBytes_app (isBytes_app (isBytes_app rfl (isBytes_u8s _)) (isBytes_u8s _)) rfl) (isBytes_u8s _)) (isBytes_u8s _)) (isBytes_data this.2.1)) (isBytes_data this.2.2)
theorem okB_app {a b : List IV} (ha : okB a = true) (hb : okB b = true) : okB (a ++ b) = true := by
  unfold okB at *
  rw [List.all_append, ha, hb]; rfl
theorem okB_data {l : List IV} (h : okB l = true) : okB (dataL l) = true := okB_app (okB_app (okB_u8s _) h) (okB_rep _)
theorem okB_field {v : XV} (h : v.ok = true) (hg : goodX v = true) : okB (fieldL v) = true := by
  have h0 := ok_iff.1 h
  obtain ⟨g1, g2, _⟩ := good_iff hg
  refine okB_app (okB_app (okB_app (okB_app (okB_app (okB_app (okB_app ?_ (okB_u8s _)) (okB_u8s _)) rfl) (okB_u8s _)) (okB_u8s _)) (okB_data h0.2.1)) (okB_data h0.2.2)
  have : 0 ≤ fst8 v ∧ fst8 v < 256 := by unfold fst8; cases v.b <;> cases v.c <;> simp only [cond_true, cond_false] <;> omega
  unfold okB
  simp [this.1, this.2]
theorem bytes_inj {a b : List IV} (ha : okB a = true) (hb : okB b = true) (h : toBytes a = toBytes b) : a = b := by rw [okB_eq ha, okB_eq hb, h]

/-! ### The call -/
theorem pX_ok {L : List IV} (ho : okB L = true) (hl : L.length ≤ 100000) : (pX L).ok = true := by
  refine ok_iff.2 ⟨⟨.inl rfl, .inl rfl, ?_, ?_⟩, okB_take (okB_drop ho _) _, okB_take (okB_drop ho _) _⟩
  · show ((L.drop 20).take (pV L)).length ≤ _; simp only [List.length_take, List.length_drop]; omega
  · show ((L.drop (pT L + 4)).take (pS L)).length ≤ _; simp only [List.length_take, List.length_drop]; omega
theorem wkOne {a d ts fs n : Int} {b c ok : Bool} {n1 n2 : Option Bool} {c1 c2 : Bool} {z1 z2 : Nat} {l1 l2 : List IV} (h1 : z1 = 1 ∨ l1 = []) (h2 : z2 = 1 ∨ l2 = []) :
    Wk (.tup [.agg [.int .i64 a, .bool b, .bool c, .int .i64 d, .int .u32 ts, .int .u32 fs, .fsl n1 c1 z1 l1, .fsl n2 c2 z2 l2], .int .i64 n, .bool ok]) (.tup [.agg [.int .i64 a, .bool b, .bool c, .int .i64 d, .int .u32 ts, .int .u32 fs, .fsl none false 1 l1, .fsl none false 1 l2], .int .i64 n, .bool ok]) := by
  refine Wk.tup (WkL.cons (Wk.agg ?_) (WkL.cons (Wk.refl _) (WkL.cons (Wk.refl _) WkL.nil)))
  iterate 6 refine WkL.cons (Wk.refl _) ?_
  refine WkL.cons (Wk.fsl rfl (.inl rfl) (by simp) ?_) (WkL.cons (Wk.fsl rfl (.inl rfl) (by simp) ?_) WkL.nil)
  · rcases h1 with h | h
    · exact .inl h.symm
    · exact .inr h
  · rcases h2 with h | h
    · exact .inl h.symm
    · exact .inr h
abbrev oneT : FuncId → Option SpecF := tab [(39, getP getFC getFG), (46, intP smallB fillG), (47, xRowP fieldC fieldL)]
theorem oneT_ok : ∀ f F, oneT f = some F → Known Try.prog hint f F := tab_cons num_known (tab_cons fill_known (tab_cons field_known tab_nil))
theorem one_known : Known Try.prog hint 40 (oneP oC oX oN oK) := by
  refine known_frz fits ?_
  intro us T v T1 h
  unfold oneP at h
  split at h
  case h_2 => cases h
  rename_i nl cl l k0
  simp only [List.mem_cons, List.not_mem_nil, or_false, Prod.mk.injEq, Bool.true_eq, oC, Bool.and_eq_true, decide_eq_true_eq] at h
  obtain ⟨⟨⟨h0, h1, h2⟩, ho⟩, rfl, rfl⟩ := h
  obtain ⟨k, rfl⟩ : ∃ k : Nat, k0 = k := ⟨k0.toNat, by omega⟩
  have hk : k ≤ l.length := by omega
  refine ⟨rfl, rfl, [[.fsl none false 1 l, .int .i64 (k : Int)]], by simp, Splits.wk (WkL.cons (Wk.fsl rfl (.inl rfl) (by simp) (.inl rfl)) (WkL.cons (Wk.refl _) WkL.nil)), fun ys hy => ?_⟩
  rw [List.mem_singleton] at hy
  subst hy
  refine ⟨noGd_of rfl, oneT, fun _ _ => none, oneT_ok, loops_none, 30, ?_⟩
  have ht := one_all l (k : Int) getFC getFG smallB fillG fieldC fieldL
  rw [xO1_eq hk, tS_eq hk, to4_eq hk, toN_eq hk, sN_eq hk, nN_eq hk, wN_eq hk, vN_eq hk, fN_eq hk, vO1_eq hk, vO2_eq hk, lf_nat hk] at ht
  have eX : oX l (k : Int) = bif reB (l.drop k) then pX (l.drop k) else zX := rfl
  have eN : oN l (k : Int) = bif reB (l.drop k) then (pN (l.drop k) : Int) else 0 := rfl
  have eK : oK l (k : Int) = bif reB (l.drop k) then (bif decide (0 < pA (l.drop k)) then toBytes (fieldL (pX (l.drop k))) == toBytes ((l.drop k).take (pN (l.drop k))) else false) else false := rfl
  rw [eX, eN, eK]
  clear eX eN eK
  have hLo : okB (l.drop k) = true := okB_drop ho k
  have hLl : (l.drop k).length ≤ 100000 := by rw [List.length_drop]; omega
  replace ht := fun r h => ht.trans (bif_step (r := r) (decide_eq_true ⟨by omega, by omega, by omega⟩) h)
  generalize l.drop k = L at *
  have zero : ¬ (re1 L ∧ re2 L) → callK Try.prog hint oneT (fun _ _ => none) 30 40 [.fsl none false 1 l, .int .i64 (k : Int)] [] (fun v T => some (v, T)) = some (IV.tup [IV.agg [IV.int IntKind.i64 (0 : Int), IV.bool false, IV.bool false, IV.int IntKind.i64 (0 : Int), IV.int IntKind.u32 (0 : Int), IV.int IntKind.u32 (0 : Int), IV.fsl (some true) true (nat_lit 0) [], IV.fsl (some true) true (nat_lit 0) []], IV.int IntKind.i64 (0 : Int), IV.bool false], []) →
      ∃ v0 T2 v1 fr, callK Try.prog hint oneT (fun _ _ => none) 30 40 [.fsl none false 1 l, .int .i64 (k : Int)] [] (fun v T => some (v, T)) = some (v0, T2) ∧ frz T2 v0 = some (v1, fr) ∧ Wk v1 (.tup [.agg [.int .i64 (bif reB L then pX L else zX).a, .bool (bif reB L then pX L else zX).b, .bool (bif reB L then pX L else zX).c, .int .i64 (bif reB L then pX L else zX).d, .int .u32 (bif reB L then pX L else zX).ts, .int .u32 (bif reB L then pX L else zX).fs, .fsl none false 1 (bif reB L then pX L else zX).l1, .fsl none false 1 (bif reB L then pX L else zX).l2], .int .i64 (bif reB L then (pN L : Int) else 0), .bool (bif reB L then (bif decide (0 < pA L) then toBytes (fieldL (pX L)) == toBytes (L.take (pN L)) else false) else false)]) := fun hn hc => by
    have : reB L = false := @decide_eq_false _ (Classical.propDecidable _) hn
    rw [this]
    exact ⟨_, _, _, [], hc, rfl, wkOne (.inr rfl) (.inr rfl)⟩
  by_cases c1 : L.length < 24
  · exact zero (fun h => by have := h.1.1; omega) (ht _ (bif_step (decide_eq_true (by omega)) rfl))
  replace ht := fun r h => ht _ (bif_stepF (r := r) (decide_eq_false (by omega)) h)
  have g2 : ∀ b, b ≤ 100 → getFC (List.take 2 (List.drop b L)) = true := fun b _ => by
    simp only [getFC, okB_take (okB_drop hLo b), Bool.and_true, decide_eq_true_eq, List.length_take]; omega
  have g4 : ∀ b, getFC (List.take 4 (List.drop b L)) = true := fun b => by
    simp only [getFC, okB_take (okB_drop hLo b), Bool.and_true, decide_eq_true_eq, List.length_take]; omega
  replace ht := fun r h => ht _ (bif_step (r := r) (decide_eq_true ⟨by omega, by omega, by omega⟩) (bif_step (g2 2 (by omega)) (bif_step (decide_eq_true ⟨by omega, by omega, by omega⟩) (bif_step (g4 16) h))))
  by_cases c2 : 24 ≤ pN L ∧ pN L ≤ L.length ∧ pV L ≤ 2048
  case neg =>
    refine zero (fun h => c2 ⟨h.1.2.1, h.1.2.2.1, h.1.2.2.2.1⟩) (ht _ (bif_stepF ?_ rfl))
    by_cases d1 : pN L < 24
    · rw [decide_eq_true (show (pN L : Int) < 24 by omega)]; rfl
    rw [decide_eq_false (show ¬ (pN L : Int) < 24 by omega), cond_false]
    by_cases d2 : pN L > L.length
    · rw [decide_eq_true (show (pN L : Int) > (L.length : Int) by omega)]; rfl
    rw [decide_eq_false (show ¬ (pN L : Int) > (L.length : Int) by omega), cond_false, decide_eq_true (show (pV L : Int) > 2048 by omega)]; rfl
  obtain ⟨c2, c3, c4⟩ := c2
  replace ht := fun r h => ht _ (bif_step (r := r) (by rw [decide_eq_false (show ¬ (pN L : Int) < 24 by omega), decide_eq_false (show ¬ (pN L : Int) > (L.length : Int) by omega), decide_eq_false (show ¬ (pV L : Int) > 2048 by omega)]; rfl) (bif_step (smallB_t (by omega)) h))
  by_cases c5 : pT L + 4 ≤ pN L
  case neg => exact zero (fun h => c5 h.1.2.2.2.2) (ht _ (bif_step (by rw [cond_false]; exact decide_eq_true (by omega)) rfl))
  replace ht := fun r h => ht _ (bif_stepF (r := r) (by rw [cond_false]; exact decide_eq_false (by omega)) (bif_step (smallB_t (by omega)) (bif_step (decide_eq_true ⟨by omega, by omega, by omega⟩) (bif_step (by rw [Int.toNat_natCast, Int.toNat_natCast, Nat.add_sub_cancel_left]; exact g4 _) h))))
  have hwS : IntKind.i64.wrap (((pT L + 4 : Nat) : Int) + IntKind.i64.wrap (pS L : Int)) = ((pT L + 4 + pS L : Nat) : Int) := by
    have := pS_lt L
    rw [wrap_i64, wrap_i64]; omega
  by_cases c6 : pS L ≤ 2048 ∧ pT L + 4 + pS L ≤ pN L
  case neg =>
    refine zero (fun h => c6 h.2) (ht _ (bif_step ?_ rfl))
    by_cases d1 : pS L > 2048
    · rw [decide_eq_true (show (pS L : Int) > 2048 by omega)]; rfl
    · rw [decide_eq_false (show ¬ (pS L : Int) > 2048 by omega), cond_false]
      exact decide_eq_true (by omega)
  have hre : reB L = true := @decide_eq_true _ (Classical.propDecidable _) ⟨⟨by omega, c2, c3, c4, c5⟩, c6⟩
  obtain ⟨c6, c7⟩ := c6
  replace ht := fun r h => ht _ (bif_stepF (r := r) (by rw [decide_eq_false (show ¬ (pS L : Int) > 2048 by omega), cond_false]; exact decide_eq_false (by omega)) h)
  have i0 := isOf_nth hLo (i := 0) (by omega)
  have d0 : decide ((1 : Nat) = 1 ∧ (0 : Int) ≤ 0 ∧ (0 : Int) < (L.length : Int)) = true := decide_eq_true ⟨rfl, by omega, by omega⟩
  replace ht := fun r h => ht _ (bif_step (r := r) d0 (bif_step i0 (bif_step d0 (bif_step i0 (bif_step d0 (bif_step i0 h))))))
  replace ht := fun r h => ht _ (bif_step (r := r) (decide_eq_true ⟨by omega, by omega, by omega⟩) (bif_step (g2 4 (by omega)) (bif_step (decide_eq_true ⟨by omega, by omega, by omega⟩) (bif_step (g4 8) (bif_step (decide_eq_true ⟨by omega, by omega, by omega⟩) (bif_step (g4 12) h))))))
  have hw2 : IntKind.u64.wrap (20 + (pV L : Int)) = ((20 + pV L : Nat) : Int) := by rw [wrap_u64]; omega
  have hT : pT L = 20 + (pV L + fillN (pV L)) := rfl
  have len1 : ((L.drop 20).take (pV L)).length ≤ 2048 := by rw [List.length_take]; omega
  have len2 : ((L.drop (pT L + 4)).take (pS L)).length ≤ 2048 := by rw [List.length_take]; omega
  have room : ∀ x : List IV, x.length ≤ 2048 → ((0 : Nat) = 1 ∨ (0 : Nat) = 0) ∧ ((0 : Nat) = 0 ∨ 0 < x.length) ∧ (0 + x.length) * 1 ≤ roomB ∧ 0 + x.length ≤ maxLen := fun x hx => ⟨.inr rfl, .inl rfl, by rw [roomB_nat]; omega, by rw [maxLen_val]; omega⟩
  rw [hw2] at ht
  replace ht := fun r h => ht _ (bif_step (r := r) (decide_eq_true ⟨by omega, by omega, by omega⟩) (bif_step (decide_eq_true (room _ len1)) (bif_step (decide_eq_true ⟨by omega, by omega, by omega⟩) (bif_step (decide_eq_true (room _ len2)) h))))
  rw [hre]
  by_cases ca : 0 < pA L
  · have hg := (pX_good hLo ⟨by omega, c2, c3, c4, c5⟩ ⟨c6, c7⟩ ca).1
    have hpo := pX_ok hLo hLl
    obtain ⟨q1, q2, q3, q4, q5, q6⟩ := good_iff hg
    have hfc : fieldC (pX L) = true := by
      unfold fieldC
      exact decide_eq_true ⟨q1, q2, .inl rfl, .inl rfl, by omega, by omega⟩
    refine ⟨_, _, _, [0, 1], ht _ (bif_step (by rw [show decide ((IntKind.i64.wrap (byI L 0)).tmod 64 > 0) = true from decide_eq_true ca]; rfl) (bif_step hfc (bif_step (by rw [isBytes_field hpo]; simp) (bif_step (decide_eq_true ⟨by omega, by omega, by omega⟩) (bif_step (by rw [Int.toNat_natCast]; simp only [true_or, decide_true, Bool.true_and]; exact isBytes_ok (okB_take (okB_drop hLo 0) _)) rfl))))), rfl, ?_⟩
    rw [decide_eq_true ca]
    exact wkOne (.inl rfl) (.inl rfl)
  · refine ⟨_, _, _, [0, 1], ht _ (bif_stepF (by rw [show decide ((IntKind.i64.wrap (byI L 0)).tmod 64 > 0) = false from decide_eq_false ca]; rfl) rfl), rfl, ?_⟩
    rw [decide_eq_false ca]
    exact wkOne (.inl rfl) (.inl rfl)
end
end Go.Proofs.Ytgbddcdpbgaojaa
