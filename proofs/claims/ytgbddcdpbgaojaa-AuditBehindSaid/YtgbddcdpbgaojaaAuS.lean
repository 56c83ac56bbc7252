/- A log laid anew, how long it is, and what is alike: what the given program does. It bears no condition. -/
import Derived.Test.YtgbddcdpbgaojaaAuO
namespace Go.Proofs.Ytgbddcdpbgaojaa
open Go Go.Im
set_option linter.unusedVariables false
set_option linter.unusedSimpArgs false
noncomputable section

/-! ### Join with nothing -/
def cJ (z : Nat) (a : List IV) : Bool := Nat.beq z 1 && okB a && decide (a.length ≤ 140737488351232)
theorem join_known : Known Try.prog hint 22 (joP cJ) := by
  refine known_frz fits fun us T v T1 h => ?_
  unfold joP at h
  split at h
  case h_2 => cases h
  rename_i nl cl z a
  simp only [List.mem_cons, List.not_mem_nil, or_false, Prod.mk.injEq, Bool.true_eq, cJ, Bool.and_eq_true, decide_eq_true_eq] at h
  obtain ⟨⟨⟨h1, h2⟩, h3⟩, rfl, rfl⟩ := h
  obtain rfl := Nat.eq_of_beq_eq_true h1
  refine ⟨rfl, rfl, [[.fsl nl cl 1 a, .fsl (some true) true 0 []]], by simp, Splits.self _, fun ys hy => ?_⟩
  rw [List.mem_singleton] at hy
  subst hy
  refine ⟨noGd_of rfl, tab [], _, tab_nil, loops_none, 30, .osl 0 0, [.row 0 false 1 ([] ++ a ++ [])], .fsl none false 1 a, [0], ?_, ?_, Wk.refl _⟩
  · refine (join_nil nl cl a).trans (bif_step (decide_eq_true ?_) (bif_step (decide_eq_true ?_) rfl))
    · rw [roomB_nat, maxLen_val]; exact ⟨.inr rfl, .inl rfl, by omega, by omega⟩
    · rw [roomB_nat, maxLen_val, List.nil_append]; omega
  · rw [List.nil_append, List.append_nil]; rfl

/-! ### Events -/
def evF (e : Ev) : IV := .agg [.int .i64 e.kind, .int .u32 e.host, .int .u32 e.peer, .int .i64 e.at_, .fsl none false 1 (u8s e.bytes)]
/-- An event that is small. -/
structure EvOK (e : Ev) : Prop where
  host : 0 ≤ e.host ∧ e.host < 4294967296
  peer : 0 ≤ e.peer ∧ e.peer < 4294967296
  len : e.bytes.length ≤ 140737488351232
theorem isEv_of {e : Ev} (h : EvOK e) (nl : Option Bool) (cl : Bool) : isEv (.agg [.int .i64 e.kind, .int .u32 e.host, .int .u32 e.peer, .int .i64 e.at_, .fsl nl cl 1 (u8s e.bytes)]) = true := by
  unfold isEv
  simp only [Bool.and_eq_true, decide_eq_true_eq]
  exact ⟨⟨⟨h.host, h.peer⟩, okB_u8s _⟩, by rw [u8s_len]; exact h.len⟩
theorem evOf_agg (e : Ev) (nl : Option Bool) (cl : Bool) : evOf (.agg [.int .i64 e.kind, .int .u32 e.host, .int .u32 e.peer, .int .i64 e.at_, .fsl nl cl 1 (u8s e.bytes)]) = e := by
  unfold evOf
  simp only [toBytes_u8s]
theorem ok_of_is {x : IV} (h : isEv x = true) : EvOK (evOf x) := by
  obtain ⟨_, _, _, h1, h2, h3⟩ := isEv_iff h
  exact ⟨h1, h2, h3⟩
abbrev evs (l : List IV) : List Ev := l.map evOf
theorem evs_F (l : List Ev) : evs (l.map evF) = l := by
  unfold evs
  rw [List.map_map]
  exact (List.map_congr_left fun e _ => evOf_agg e none false).trans (List.map_id l)
theorem all_F {l : List Ev} (h : ∀ e ∈ l, EvOK e) : (l.map evF).all isEv = true := by
  rw [List.all_eq_true]
  intro x hx
  obtain ⟨e, he, rfl⟩ := List.mem_map.1 hx
  exact isEv_of (h e he) none false
theorem all_ok {l : List IV} (h : l.all isEv = true) : ∀ e ∈ evs l, EvOK e := fun e he => by
  obtain ⟨x, hx, rfl⟩ := List.mem_map.1 he
  exact ok_of_is (List.all_eq_true.1 h x hx)
theorem nthD_at {l : List IV} {i : Nat} (h : i < l.length) : nthD l ((i : Int)).toNat = l[i] := by
  rw [Int.toNat_natCast]
  simp [nthD, List.getD, h]

/-! ### Own -/
def cO (l : List IV) : Bool := l.all isEv && decide (l.length ≤ 1000)
def owP (c : List IV → Bool) (g : List IV → List IV) : SpecF := fun us T => match us, T with
  | [.fsl nl cl 5 l], [] => [(c l, .fsl none false 5 (g l), [])]
  | _, _ => []
def gO (l : List IV) : List IV := (evs l).map evF
abbrev tabO : FuncId → Option SpecF := tab [(22, joP cJ)]
theorem tabO_ok : ∀ f F, tabO f = some F → Known Try.prog hint f F := tab_cons join_known tab_nil
theorem own_runs {l : List IV} (ha : l.all isEv = true) (hl : l.length ≤ 1000) {nl : Option Bool} {cl : Bool} :
    EachOK Try.prog hint (acall Try.prog hint (ovrOf tabO)) 0 (hint.kp 12) (loopAt Try.prog 12 58) (Sx 12 (owV nl cl l ((0 : Nat) : Int)) [.row 0 false 5 ((evs (l.take 0)).map evF)]) (.exit 0)
      (fun _ : Unit => Sx 12 (owV nl cl l (l.length : Int)) [.row 0 false 5 ((evs (l.take l.length)).map evF)]) (foldE (fun (_ : Nat) (_ : Unit) (_ : IV) => (Sum.inl () : Unit ⊕ (Ex × St))) 0 () l) := by
  refine runs_each (X := Unit) (l := l) (n := 30) (ls := fun _ _ => none) loops_none inner0 (fun i _ => Sx 12 (owV nl cl l (i : Int)) [.row 0 false 5 ((evs (l.take i)).map evF)]) _
    (fun _ _ => True) (by simp) ?_ ?_ l.length 0 () (by omega) trivial
  · intro i _ hi _
    refine .inl ⟨(), rfl, ?_, trivial⟩
    have ht := own_in cJ nl cl l ((evs (l.take i)).map evF) i
    obtain ⟨nl', cl', hx, _, _, hb⟩ := isEv_iff (List.all_eq_true.1 ha _ (List.getElem_mem hi))
    have e : (evs (l.take (i + 1))).map evF = (evs (l.take i)).map evF ++ [evF (evOf l[i])] := by
      rw [List.take_succ_eq_append_getElem hi, evs, List.map_append, List.map_append]
      rfl
    rw [e]
    rw [nthD_at hi, wadd1 (by omega)] at ht
    generalize evOf l[i] = ev at *
    rw [hx] at ht
    refine ht.trans (bif_step (decide_eq_true (by omega)) (bif_step (decide_eq_true ⟨rfl, by omega, by omega⟩) (bif_step rfl (bif_step ?_ (bif_step (decide_eq_true ?_) rfl)))))
    · show cJ 1 (u8s ev.bytes) = true
      unfold cJ
      rw [okB_u8s, u8s_len, decide_eq_true hb]; rfl
    · rw [roomB_nat, maxLen_val]
      simp only [List.length_cons, List.length_nil, List.length_map, List.length_take]
      omega
  · intro _ _
    have ht := own_in cJ nl cl l ((evs (l.take l.length)).map evF) l.length
    exact ht.trans (bif_stepF (decide_eq_false (by omega)) rfl)
theorem own_known : Known Try.prog hint 12 (owP cO gO) := by
  refine known_frz fits fun us T v T1 h => ?_
  unfold owP at h
  split at h
  case h_2 => cases h
  rename_i nl cl l
  simp only [List.mem_cons, List.not_mem_nil, or_false, Prod.mk.injEq, Bool.true_eq, cO, Bool.and_eq_true, decide_eq_true_eq] at h
  obtain ⟨⟨h1, h2⟩, rfl, rfl⟩ := h
  refine ⟨rfl, rfl, [[.fsl nl cl 5 l]], by simp, Splits.self _, fun ys hy => ?_⟩
  rw [List.mem_singleton] at hy
  subst hy
  have q := own_runs h1 h2 (nl := nl) (cl := cl)
  rw [foldE_inl (g := fun (_ : Unit) (_ : IV) => ()) (fun _ _ _ => rfl), List.take_length] at q
  have hls : LoopsOK Try.prog hint (acall Try.prog hint (ovrOf tabO)) (ltab [(12, 58, LF 12 0 (oneF (owV nl cl l 0) [.row 0 false 5 []] (.exit 0) (owV nl cl l (l.length : Int)) [.row 0 false 5 (gO l)]))]) := by
    refine ltab_cons (by kernel_rfl) (loopF_ok fun vs bx e vs' bx' hm => ?_) ltab_nil
    obtain ⟨rfl, rfl, rfl, rfl, rfl⟩ := oneF_mem hm
    exact q
  exact ⟨noGd_of rfl, tabO, _, tabO_ok, hls, 30, .osl 0 0, [.row 0 false 5 (gO l)], .fsl none false 5 (gO l), [0], (own_call cJ nl cl l (gO l)).trans (bif_step sameS_t rfl), rfl, Wk.refl _⟩

/-! ### long -/
def overN : Nat → List Ev → Bool
  | _, [] => false
  | n, e :: es => decide (8000 < n + e.bytes.length) || overN (n + e.bytes.length) es
def longB (l : List Ev) : Bool := decide (50 < l.length) || overN 0 l
theorem long_len {l : List Ev} (h : longB l = false) : l.length ≤ 50 := by
  unfold longB at h
  rw [Bool.or_eq_false_iff] at h
  have := of_decide_eq_false h.1
  omega
def loStep (nl : Option Bool) (cl : Bool) (l : List IV) (i : Nat) (n : Nat) (x : IV) : Nat ⊕ (Ex × St) :=
  if 8000 < n + (evOf x).bytes.length then .inr (.ret, Sx 9 (loV nl cl l true ((n + (evOf x).bytes.length : Nat) : Int) (i : Int)) []) else .inl (n + (evOf x).bytes.length)
theorem lo_fold (nl : Option Bool) (cl : Bool) (L : List IV) : ∀ (l : List IV) (i n : Nat), (overN n (evs l) = false ∧ ∃ m : Nat, foldE (loStep nl cl L) i n l = .inl m) ∨ (overN n (evs l) = true ∧ ∃ m j : Nat, foldE (loStep nl cl L) i n l = .inr (.ret, Sx 9 (loV nl cl L true (m : Int) (j : Int)) []))
  | [], i, n => .inl ⟨rfl, n, rfl⟩
  | x :: l, i, n => by
    have ih := lo_fold nl cl L l (i + 1) (n + (evOf x).bytes.length)
    unfold foldE
    have e0 : overN n (evs (x :: l)) = (decide (8000 < n + (evOf x).bytes.length) || overN (n + (evOf x).bytes.length) (evs l)) := rfl
    rw [e0]
    by_cases h : 8000 < n + (evOf x).bytes.length
    · right
      rw [decide_eq_true h]
      refine ⟨rfl, n + (evOf x).bytes.length, i, ?_⟩
      simp only [loStep]
      rw [if_pos h]
    · rw [decide_eq_false h, Bool.false_or]
      have e1 : loStep nl cl L i n x = .inl (n + (evOf x).bytes.length) := by unfold loStep; rw [if_neg h]
      rw [e1]
      exact ih
theorem lo_runs {l : List IV} (ha : l.all isEv = true) (hl : l.length ≤ 50) {nl : Option Bool} {cl : Bool} :
    EachOK Try.prog hint (acall Try.prog hint (ovrOf (tab []))) 0 (hint.kp 9) (loopAt Try.prog 9 122) (Sx 9 (loV nl cl l false ((0 : Nat) : Int) ((0 : Nat) : Int)) []) (.exit 0)
      (fun n : Nat => Sx 9 (loV nl cl l false (n : Int) (l.length : Int)) []) (foldE (loStep nl cl l) 0 0 l) := by
  refine runs_each (X := Nat) (l := l) (n := 30) (ls := fun _ _ => none) loops_none inner0 (fun i n => Sx 9 (loV nl cl l false ((n : Nat) : Int) (i : Int)) []) _
    (fun i n => n ≤ 8000) (by simp) ?_ ?_ l.length 0 0 (by omega) (by omega)
  · intro i n hi hn
    have ht := lo_in nl cl l n i
    obtain ⟨nl', cl', hx, _, _, hb⟩ := isEv_iff (List.all_eq_true.1 ha _ (List.getElem_mem hi))
    unfold loStep
    rw [nthD_at hi, wadd1 (by omega)] at ht
    generalize evOf l[i] = ev at *
    rw [hx] at ht
    have e1 : (rowL (nthD (List.drop 4 (IV.agg [.int .i64 ev.kind, .int .u32 ev.host, .int .u32 ev.peer, .int .i64 ev.at_, .fsl nl' cl' 1 (u8s ev.bytes)]).cells) 0)).length = ev.bytes.length := by
      show (u8s ev.bytes).length = _
      exact u8s_len _
    rw [e1, wadd (by omega)] at ht
    replace ht := fun r k => ht.trans (bif_step (r := r) (decide_eq_true (by omega)) (bif_step (decide_eq_true ⟨rfl, by omega, by omega⟩) (bif_step rfl k)))
    by_cases hg : 8000 < n + ev.bytes.length
    · exact .inr ⟨_, _, by rw [if_pos hg], by simp, ht _ (bif_step (decide_eq_true (by omega)) rfl)⟩
    · exact .inl ⟨_, by rw [if_neg hg], ht _ (bif_stepF (decide_eq_false (by omega)) rfl), by omega⟩
  · intro n hn
    have ht := lo_in nl cl l n l.length
    exact ht.trans (bif_stepF (decide_eq_false (by omega)) rfl)
def lgP (c g : List IV → Bool) : SpecF := fun us T => match us, T with
  | [.fsl nl cl 5 l], [] => [(c l, .bool (g l), [])]
  | _, _ => []
def cE (l : List IV) : Bool := l.all isEv
def gLong (l : List IV) : Bool := longB (evs l)
theorem long_known : Known Try.prog hint 9 (lgP cE gLong) := by
  refine known_alt fits fun us T v T1 h => ?_
  unfold lgP at h
  split at h
  case h_2 => cases h
  rename_i nl cl l
  simp only [List.mem_cons, List.not_mem_nil, or_false, Prod.mk.injEq, Bool.true_eq] at h
  obtain ⟨h1, rfl, rfl⟩ := h
  refine ⟨[[.fsl nl cl 5 l]], by simp, Splits.self _, fun ys hy => ?_⟩
  rw [List.mem_singleton] at hy
  subst hy
  unfold gLong longB
  have hlen : (evs l).length = l.length := List.length_map ..
  rw [hlen]
  by_cases hl : 50 < l.length
  · rw [decide_eq_true hl]
    exact ⟨noGd_of rfl, tab [], ltab [(9, 122, noL)], tab_nil, ltab_cons (by kernel_rfl) (fun p s e s' h => by cases h) ltab_nil, 30, _, Wk.refl _, (lo_none nl cl l).trans (bif_step (decide_eq_true (by omega)) rfl)⟩
  · rw [decide_eq_false hl, Bool.false_or]
    have q := lo_runs h1 (by omega) (nl := nl) (cl := cl)
    rcases lo_fold nl cl l l 0 0 with ⟨hv, m, hf⟩ | ⟨hv, m, j, hf⟩
    · rw [hf] at q
      rw [hv]
      have hls : LoopsOK Try.prog hint (acall Try.prog hint (ovrOf (tab []))) (ltab [(9, 122, LF 9 0 (oneF (loV nl cl l false 0 0) [] (.exit 0) (loV nl cl l false (m : Int) (l.length : Int)) []))]) := by
        refine ltab_cons (by kernel_rfl) (loopF_ok fun vs bx e vs' bx' hm => ?_) ltab_nil
        obtain ⟨rfl, rfl, rfl, rfl, rfl⟩ := oneF_mem hm
        exact q
      exact ⟨noGd_of rfl, tab [], _, tab_nil, hls, 30, _, Wk.refl _, (lo_no nl cl l m).trans (bif_stepF (decide_eq_false (by omega)) (bif_step sameS_t rfl))⟩
    · rw [hf] at q
      rw [hv]
      have hls : LoopsOK Try.prog hint (acall Try.prog hint (ovrOf (tab []))) (ltab [(9, 122, LF 9 0 (oneF (loV nl cl l false 0 0) [] .ret (loV nl cl l true (m : Int) (j : Int)) []))]) := by
        refine ltab_cons (by kernel_rfl) (loopF_ok fun vs bx e vs' bx' hm => ?_) ltab_nil
        obtain ⟨rfl, rfl, rfl, rfl, rfl⟩ := oneF_mem hm
        exact q
      exact ⟨noGd_of rfl, tab [], _, tab_nil, hls, 30, _, Wk.refl _, (lo_yes nl cl l m j).trans (bif_stepF (decide_eq_false (by omega)) (bif_step sameS_t rfl))⟩

/-! ### Alike -/
def alP (c : Nat → List IV → Nat → List IV → Bool) (g : Int → Int → Int → List IV → Int → Int → Int → List IV → Bool) : SpecF := fun us T => match us, T with
  | [.agg [.int .i64 k, .int .u32 h, .int .u32 p, .int .i64 a, .fsl nl cl z b], .agg [.int .i64 k', .int .u32 h', .int .u32 p', .int .i64 a', .fsl nl' cl' z' b']], [] => [(c z b z' b', .bool (g k h p b k' h' p' b'), [])]
  | _, _ => []
def cA (z : Nat) (b : List IV) (z' : Nat) (b' : List IV) : Bool := Nat.beq z 1 && okB b && Nat.beq z' 1 && okB b'
def gA (k h p : Int) (b : List IV) (k' h' p' : Int) (b' : List IV) : Bool := alike ⟨k, h, p, 0, toBytes b⟩ ⟨k', h', p', 0, toBytes b'⟩
theorem alike_known : Known Try.prog hint 20 (alP cA gA) := by
  refine known_of fits (spec := tab []) tab_nil loops_none ?_
  intro us T v T1 h
  unfold alP at h
  split at h
  case h_2 => cases h
  rename_i k h' p a nl cl z b k' hh' p' a' nl' cl' z' b'
  simp only [List.mem_cons, List.not_mem_nil, or_false, Prod.mk.injEq, Bool.true_eq, cA, Bool.and_eq_true] at h
  obtain ⟨⟨⟨⟨h1, h2⟩, h3⟩, h4⟩, rfl, rfl⟩ := h
  obtain rfl := Nat.eq_of_beq_eq_true h1
  obtain rfl := Nat.eq_of_beq_eq_true h3
  refine ⟨30, (alike_tree k h' p a k' hh' p' a' nl nl' cl cl' b b').trans (bif_step ?_ (bif_step ?_ ?_))⟩
  · rw [decide_eq_true (.inl rfl), okB_eq h2]
    exact isBytes_u8s _
  · rw [decide_eq_true (.inl rfl), okB_eq h4]
    exact isBytes_u8s _
  · congr 3
    unfold gA alike Ev.s Ev.t
    simp only [Prod.mk.injEq]
    cases hk : k == (1 : Int) <;> cases hk' : k' == (3 : Int) <;> simp
    by_cases c1 : h' = p' <;> by_cases c2 : p = hh' <;> by_cases c3 : toBytes b = toBytes b' <;> simp [c1, c2, c3]
end
end Go.Proofs.Ytgbddcdpbgaojaa
