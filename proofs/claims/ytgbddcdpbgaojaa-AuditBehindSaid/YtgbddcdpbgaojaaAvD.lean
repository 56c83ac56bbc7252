/- AuditAll: what is proved of the given program. It bears no condition. -/
import Derived.Test.YtgbddcdpbgaojaaAvC
namespace Go.Proofs.Ytgbddcdpbgaojaa
open Go Go.Im
set_option linter.unusedVariables false
set_option linter.unusedSimpArgs false
noncomputable section

/-! ### Whether all have a match -/
def pxB (out : List (Int × Int)) : Bool := out.any fun m => decide (m.2 < 0)
def pxStep (out : List (Int × Int)) (i : Nat) (_ : Unit) (m : Int × Int) : Unit ⊕ (Ex × St) :=
  if m.2 < 0 then .inr (.ret, Sx 35 (pxV (out.map ivM) (i : Int) (out.length : Int) (i : Int)) []) else .inl ()
theorem px_fold (O : List (Int × Int)) : ∀ (out : List (Int × Int)) (i : Nat), (pxB out = false ∧ foldE (pxStep O) i () out = .inl ()) ∨ (pxB out = true ∧ ∃ j : Nat, foldE (pxStep O) i () out = .inr (.ret, Sx 35 (pxV (O.map ivM) (j : Int) (O.length : Int) (j : Int)) []))
  | [], i => .inl ⟨rfl, rfl⟩
  | m :: out, i => by
    have ih := px_fold O out (i + 1)
    unfold foldE
    have e0 : pxB (m :: out) = (decide (m.2 < 0) || pxB out) := rfl
    rw [e0]
    by_cases h : m.2 < 0
    · right
      rw [decide_eq_true h]
      refine ⟨rfl, i, ?_⟩
      simp only [pxStep]
      rw [if_pos h]
    · rw [decide_eq_false h, Bool.false_or]
      have e1 : pxStep O i () m = .inl () := by unfold pxStep; rw [if_neg h]
      rw [e1]
      exact ih
theorem px_runs {out : List (Int × Int)} (hl : out.length ≤ 1000) :
    EachOK Try.prog hint (acall Try.prog hint (ovrOf (tab []))) 0 (hint.kp 35) (loopAt Try.prog 35 26) (Sx 35 (pxV (out.map ivM) 0 (out.length : Int) ((0 : Nat) : Int)) []) (.exit 0)
      (fun _ : Unit => Sx 35 (pxV (out.map ivM) 0 (out.length : Int) (out.length : Int)) []) (foldE (pxStep out) 0 () out) := by
  refine runs_each (X := Unit) (l := out) (n := 30) (ls := fun _ _ => none) loops_none inner0 (fun i _ => Sx 35 (pxV (out.map ivM) 0 (out.length : Int) (i : Int)) []) _
    (fun _ _ => True) (by simp) ?_ ?_ out.length 0 () (by omega) trivial
  · intro i u hi _
    have ht := px_in (out.map ivM) 0 out.length i
    have q1 : Im.intOf (nthD (IV.agg [.int .i64 out[i].1, .int .i64 out[i].2]).cells 1) = out[i].2 := Eq.trans rfl rfl
    rw [nthM hi, q1, List.length_map, wadd1 (by omega)] at ht
    replace ht := fun r k => ht.trans (bif_step (r := r) (decide_eq_true (by omega)) (bif_step (decide_eq_true ⟨rfl, by omega, by omega⟩) (bif_step rfl k)))
    unfold pxStep
    by_cases h : out[i].2 < 0
    · exact .inr ⟨_, _, by rw [if_pos h], by simp, ht _ (bif_step (decide_eq_true h) rfl)⟩
    · exact .inl ⟨(), by rw [if_neg h], ht _ (bif_stepF (decide_eq_false h) rfl), trivial⟩
  · intro _ _
    have ht := px_in (out.map ivM) 0 out.length out.length
    exact ht.trans (bif_stepF (decide_eq_false (by omega)) rfl)
def outOf (x : IV) : Int × Int := (Im.intOf (nthD x.cells 0), Im.intOf (nthD x.cells 1))
theorem outOf_iv (out : List (Int × Int)) : (out.map ivM).map outOf = out := by
  rw [List.map_map]
  exact (List.map_congr_left fun m _ => rfl).trans (List.map_id out)
def cX (rows : List IV) : Bool := @decide (rows = (rows.map outOf).map ivM ∧ rows.length ≤ 1000) (Classical.propDecidable _)
def gX (rows : List IV) : Bool := pxB (rows.map outOf)
theorem px_known : Known Try.prog hint 29 (pxP cX gX) := by
  refine known_alt fits fun us T v T1 h => ?_
  unfold pxP at h
  split at h
  case h_2 => cases h
  rename_i rows
  simp only [List.mem_cons, List.not_mem_nil, or_false, Prod.mk.injEq, Bool.true_eq, cX, decide_eq_true_eq] at h
  obtain ⟨⟨h1, h2⟩, rfl, rfl⟩ := h
  refine ⟨[[.fsl none false 2 rows, .fn 30 []]], by simp, Splits.self _, fun ys hy => ?_⟩
  rw [List.mem_singleton] at hy
  subst hy
  unfold gX
  generalize rows.map outOf = out at *
  subst h1
  rw [List.length_map] at h2
  have q := px_runs h2
  have hlen : ((out.map ivM).length : Int) = (out.length : Int) := by rw [List.length_map]
  rcases px_fold out out 0 with ⟨hv, hf⟩ | ⟨hv, j, hf⟩
  · rw [hf] at q
    rw [hv]
    have hls : LoopsOK Try.prog hint (acall Try.prog hint (ovrOf (tab []))) (ltab [(35, 26, LF 35 0 (oneF (pxV (out.map ivM) 0 ((out.map ivM).length : Int) 0) [] (.exit 0) (pxV (out.map ivM) 0 ((out.map ivM).length : Int) ((out.map ivM).length : Int)) []))]) := by
      refine ltab_cons (by kernel_rfl) (loopF_ok fun vs bx e vs' bx' hm => ?_) ltab_nil
      obtain ⟨rfl, rfl, rfl, rfl, rfl⟩ := oneF_mem hm
      rw [hlen]
      exact q
    exact ⟨noGd_of rfl, tab [], _, tab_nil, hls, 30, _, Wk.refl _, (px_no (out.map ivM)).trans (bif_step sameS_t rfl)⟩
  · rw [hf] at q
    rw [hv]
    have hls : LoopsOK Try.prog hint (acall Try.prog hint (ovrOf (tab []))) (ltab [(35, 26, LF 35 0 (oneF (pxV (out.map ivM) 0 ((out.map ivM).length : Int) 0) [] .ret (pxV (out.map ivM) (j : Int) ((out.map ivM).length : Int) (j : Int)) []))]) := by
      refine ltab_cons (by kernel_rfl) (loopF_ok fun vs bx e vs' bx' hm => ?_) ltab_nil
      obtain ⟨rfl, rfl, rfl, rfl, rfl⟩ := oneF_mem hm
      rw [hlen]
      exact q
    refine ⟨noGd_of rfl, tab [], _, tab_nil, hls, 30, _, Wk.refl _, (px_yes (out.map ivM) j).trans (bif_step sameS_t ?_)⟩
    rw [decide_eq_true (show (j : Int) ≥ 0 by omega)]
def gP (l : List IV) : Bool := !pxB (mat (evs l))
theorem proper_known : Known Try.prog hint 19 (lgP cM gP) := by
  refine known_alt fits fun us T v T1 h => ?_
  unfold lgP at h
  split at h
  case h_2 => cases h
  rename_i nl cl l
  simp only [List.mem_cons, List.not_mem_nil, or_false, Prod.mk.injEq, Bool.true_eq] at h
  obtain ⟨h1, rfl, rfl⟩ := h
  refine ⟨[[.fsl nl cl 5 l]], by simp, Splits.self _, fun ys hy => ?_⟩
  rw [List.mem_singleton] at hy
  subst hy
  have hc := h1
  unfold cM at hc
  simp only [Bool.and_eq_true, decide_eq_true_eq] at hc
  have hml := mat_len (evs l)
  rw [List.length_map] at hml
  have hX : cX (gM l) = true := by
    refine @decide_eq_true _ (Classical.propDecidable _) ⟨?_, ?_⟩
    · unfold gM; rw [outOf_iv]
    · unfold gM; rw [List.length_map]; exact Nat.le_trans hml hc.1
  refine ⟨noGd_of rfl, tab [(11, matP cM gM), (29, pxP cX gX)], _, tab_cons match_known (tab_cons px_known tab_nil), loops_none, 30, _, Wk.refl _, (pr_tree cM gM cX gX nl cl l).trans (bif_step h1 (bif_step hX ?_))⟩
  unfold gX gP gM
  rw [outOf_iv]

/-! ### The rounds -/
abbrev tabA' : FuncId → Option SpecF := tabA cE gLong cO gO cM gP cA gA cO gT
theorem tabA_ok : ∀ f F, tabA' f = some F → Known Try.prog hint f F := tab_cons long_known (tab_cons alive_known (tab_cons own_known (tab_cons proper_known (tab_cons alike_known (tab_cons matched_known tab_nil)))))
abbrev NA : Nat → CallF := acall Try.prog hint (ovrOf tabA')
abbrev I64 (l : List Int) : List IV := l.map (IV.int .i64)
theorem I64_len (l : List Int) : (I64 l).length = l.length := List.length_map ..
theorem nthN {zs : List Int} {i : Nat} (h1 : i < zs.length) : nthD (I64 zs) ((i : Int)).toNat = .int .i64 zs[i] := by
  rw [nthD_at (by rw [I64_len]; exact h1)]
  simp [I64]
theorem io2 (x : Int) : Im.intOf (nthD (IV.int .i64 x).cells 0) = x := Eq.trans rfl rfl
def ialStep (nl : Option Bool) (cl : Bool) (l : List IV) (nl' : Option Bool) (cl' : Bool) (zs : List Int) (n i : Nat) (z : Int) (k : Nat) (_ : Unit) (x : Int) : Unit ⊕ (Ex × St) :=
  if x = z then .inr (.ret, Sx 8 (alV nl cl l nl' cl' (I64 zs) true (n : Int) (i : Int) (.int .i64 (k : Int))) []) else .inl ()
theorem ial_fold (nl : Option Bool) (cl : Bool) (l : List IV) (nl' : Option Bool) (cl' : Bool) (zs : List Int) (n i : Nat) (z : Int) : ∀ (us : List Int) (k : Nat), (z ∉ us ∧ foldE (ialStep nl cl l nl' cl' zs n i z) k () us = .inl ()) ∨ ∃ j : Nat, foldE (ialStep nl cl l nl' cl' zs n i z) k () us = .inr (.ret, Sx 8 (alV nl cl l nl' cl' (I64 zs) true (n : Int) (i : Int) (.int .i64 (j : Int))) [])
  | [], k => .inl ⟨by simp, rfl⟩
  | x :: us, k => by
    have ih := ial_fold nl cl l nl' cl' zs n i z us (k + 1)
    unfold foldE
    by_cases h : x = z
    · right
      refine ⟨k, ?_⟩
      simp only [ialStep]
      rw [if_pos h]
    · have e1 : ialStep nl cl l nl' cl' zs n i z k () x = .inl () := by unfold ialStep; rw [if_neg h]
      rw [e1]
      rcases ih with ⟨h1, h2⟩ | h2
      · exact .inl ⟨fun hm => by rcases List.mem_cons.1 hm with rfl | hm; exact h rfl; exact h1 hm, h2⟩
      · exact .inr h2
theorem ial_runs {nl nl' : Option Bool} {cl cl' : Bool} {l : List IV} {zs : List Int} {n i : Nat} (hn : n < zs.length) (hz : n ≤ 1000) :
    EachOK Try.prog hint NA 0 (hint.kp 8) (loopAt Try.prog 8 62618) (Sx 8 (alV nl cl l nl' cl' (I64 zs) false (n : Int) (i : Int) (.int .i64 ((0 : Nat) : Int))) []) (.exit 2)
      (fun _ : Unit => Sx 8 (alV nl cl l nl' cl' (I64 zs) false (n : Int) (i : Int) (.int .i64 (n : Int))) []) (foldE (ialStep nl cl l nl' cl' zs n i zs[n]) 0 () (zs.take n)) := by
  have htn : (zs.take n).length = n := by simp; omega
  refine runs_each (X := Unit) (l := zs.take n) (n := 30) (ls := fun _ _ => none) loops_none inner0 (fun k _ => Sx 8 (alV nl cl l nl' cl' (I64 zs) false (n : Int) (i : Int) (.int .i64 (k : Int))) []) _
    (fun _ _ => True) (by simp) ?_ ?_ (zs.take n).length 0 () (by omega) trivial
  · intro k u hk _
    rw [htn] at hk
    have hk' : k < zs.length := by omega
    have ht := al_inn cE gLong cO gO cM gP cA gA cO gT nl cl l nl' cl' (I64 zs) n i k
    rw [nthN hk', nthN hn, io2, io2, I64_len, wadd1 (by omega)] at ht
    replace ht := fun r q => ht.trans (bif_step (r := r) (decide_eq_true (by omega)) (bif_step (decide_eq_true ⟨rfl, by omega, by omega⟩) (bif_step rfl (bif_step (decide_eq_true ⟨rfl, by omega, by omega⟩) (bif_step rfl q)))))
    rw [List.getElem_take]
    unfold ialStep
    by_cases h : zs[k] = zs[n]
    · exact .inr ⟨_, _, by rw [if_pos h], by simp, ht _ (bif_step (beq_iff_eq.2 h) rfl)⟩
    · exact .inl ⟨(), by rw [if_neg h], ht _ (bif_stepF (beq_eq_false_iff_ne.2 h) rfl), trivial⟩
  · intro _ _
    rw [htn]
    have ht := al_inn cE gLong cO gO cM gP cA gA cO gT nl cl l nl' cl' (I64 zs) n i n
    exact ht.trans (bif_stepF (decide_eq_false (by omega)) rfl)
theorem in8 : loopsOf (2 * 122) (loopAt Try.prog 8 122) = [(62618, itemAt Try.prog 8 62618)] := by kernel_rfl
theorem one8_ok {F : LoopF} (h1 : LoopOK Try.prog hint NA (itOf Try.prog hint NA) (hint.kp 8) (itemAt Try.prog 8 62618) F) : LoopsOK Try.prog hint NA (ltab [(8, 62618, F)]) ∧ ItemsOK Try.prog hint NA (itOf Try.prog hint NA) (ltab [(8, 62618, F)] 8) (hint.kp 8) (2 * 122) (loopAt Try.prog 8 122) := by
  refine ⟨ltab_cons (by kernel_rfl) h1 ltab_nil, fun x hx F' hF => ?_⟩
  rw [in8, List.mem_singleton] at hx
  subst hx
  cases hF
  exact h1
theorem no8_ok : LoopsOK Try.prog hint NA (ltab [(8, 62618, noL)]) ∧ ItemsOK Try.prog hint NA (itOf Try.prog hint NA) (ltab [(8, 62618, noL)] 8) (hint.kp 8) (2 * 122) (loopAt Try.prog 8 122) := one8_ok fun p s e s' h => by cases h
/-- What a round comes to. -/
def AStep (nl : Option Bool) (cl : Bool) (l : List IV) (nl' : Option Bool) (cl' : Bool) (zs : List Int) (n i : Nat) (s : St) : Prop :=
  ∃ ls, (LoopsOK Try.prog hint NA ls ∧ ItemsOK Try.prog hint NA (itOf Try.prog hint NA) (ls 8) (hint.kp 8) (2 * 122) (loopAt Try.prog 8 122)) ∧
    ((∃ n' d', Lst d' ∧ n' ≤ zs.length ∧ Giv (evs l) (i + 1) (zs.take n') ∧ Rl tabA' ls 0 8 122 s = some (.normal, Sx 8 (alV nl cl l nl' cl' (I64 zs) false ((n' : Nat) : Int) ((i + 1 : Nat) : Int) d') [])) ∨
     ∃ n' i' d', Lst d' ∧ Rl tabA' ls 0 8 122 s = some (.ret, Sx 8 (alV nl cl l nl' cl' (I64 zs) true n' i' d') []))
theorem al_round0 {l : List IV} (ha : l.all isEv = true) (hl : l.length ≤ 1000) {nl nl' : Option Bool} {cl cl' : Bool} {zs : List Int} {n i : Nat} (hn : n ≤ zs.length) (hi : i < l.length) (hG : Giv (evs l) i (zs.take n)) :
    AStep nl cl l nl' cl' zs n i (Sx 8 (alV nl cl l nl' cl' (I64 zs) false (n : Int) (i : Int) IV.undef) []) := by
  obtain ⟨ni, ci, hxi, _⟩ := isEv_iff (List.all_eq_true.1 ha _ (List.getElem_mem hi))
  have hei : (evs l)[i]? = some (evOf l[i]) := by simp [evs, hi]
  have hNi := nthD_at hi
  rw [hxi] at hNi
  generalize evOf l[i] = e at *
  have q0 : Im.intOf (nthD (List.drop 0 (IV.agg [.int .i64 e.kind, .int .u32 e.host, .int .u32 e.peer, .int .i64 e.at_, .fsl ni ci 1 (u8s e.bytes)]).cells) 0) = e.kind := Eq.trans rfl rfl
  have c5 : (5 : Nat) = 5 ∧ (0 : Int) ≤ (i : Int) ∧ (i : Int) < (l.length : Int) := ⟨rfl, by omega, by omega⟩
  by_cases k3 : e.kind = 3
  case neg =>
    refine ⟨ltab [(8, 62618, noL)], no8_ok, .inl ⟨n, IV.undef, .inl rfl, hn, giv_skip hG hei k3, ?_⟩⟩
    have ht := al_n0 cE gLong cO gO cM gP cA gA cO gT nl cl l nl' cl' (I64 zs) n i
    rw [hNi, q0, wadd1 (by omega)] at ht
    exact ht.trans (bif_step (decide_eq_true (by omega)) (bif_step (decide_eq_true c5) (bif_step rfl (bif_step (bne_iff_ne.2 k3) rfl))))
  case pos =>
  have kb : (e.kind != (3 : Int)) = false := by rw [k3]; rfl
  by_cases hnz : n < zs.length
  case neg =>
    refine ⟨ltab [(8, 62618, noL)], no8_ok, .inr ⟨(n : Int), (i : Int), IV.undef, .inl rfl, ?_⟩⟩
    have ht := al_n0 cE gLong cO gO cM gP cA gA cO gT nl cl l nl' cl' (I64 zs) n i
    rw [hNi, q0, I64_len] at ht
    exact ht.trans (bif_step (decide_eq_true (by omega)) (bif_step (decide_eq_true c5) (bif_step rfl (bif_stepF kb (bif_stepF (by rw [decide_eq_true (by omega)]; rfl) rfl)))))
  case pos =>
  have c1 : (1 : Nat) = 1 ∧ (0 : Int) ≤ (n : Int) ∧ (n : Int) < (zs.length : Int) := ⟨rfl, by omega, by omega⟩
  have hUl : (zs.take n).length = n := by simp; omega
  have hn1000 : n ≤ 1000 := by
    have h1 := hG.cnt_
    have h2 := cnt_le (ms ((evs l).take i)).out 0
    have h3 := out_len ((evs l).take i)
    have h4 : ((evs l).take i).length ≤ l.length := by simp [evs]; omega
    unfold cnt at h1
    omega
  by_cases hz0 : zs[n] < 0
  case pos =>
    refine ⟨ltab [(8, 62618, noL)], no8_ok, .inr ⟨(n : Int), (i : Int), IV.undef, .inl rfl, ?_⟩⟩
    have ht := al_n0 cE gLong cO gO cM gP cA gA cO gT nl cl l nl' cl' (I64 zs) n i
    rw [hNi, q0, nthN hnz, io2, I64_len] at ht
    exact ht.trans (bif_step (decide_eq_true (by omega)) (bif_step (decide_eq_true c5) (bif_step rfl (bif_stepF kb (bif_step (by rw [decide_eq_false (by omega)]; rfl) (bif_step (decide_eq_true c1) (bif_step rfl (bif_stepF (by rw [cond_false, decide_eq_true hz0]; rfl) rfl))))))))
  case neg =>
  by_cases hzi : zs[n] ≥ (i : Int)
  case pos =>
    refine ⟨ltab [(8, 62618, noL)], no8_ok, .inr ⟨(n : Int), (i : Int), IV.undef, .inl rfl, ?_⟩⟩
    have ht := al_n0 cE gLong cO gO cM gP cA gA cO gT nl cl l nl' cl' (I64 zs) n i
    rw [hNi, q0, nthN hnz, io2, I64_len] at ht
    exact ht.trans (bif_step (decide_eq_true (by omega)) (bif_step (decide_eq_true c5) (bif_step rfl (bif_stepF kb (bif_step (by rw [decide_eq_false (by omega)]; rfl) (bif_step (decide_eq_true c1) (bif_step rfl (bif_step (by rw [cond_false, decide_eq_false hz0]; rfl)
      (bif_step (decide_eq_true c1) (bif_step rfl (bif_stepF (by rw [cond_false, decide_eq_true hzi]; rfl) rfl)))))))))))
  case neg =>
  have hgl : zs[n].toNat < l.length := by omega
  obtain ⟨na, ca, hxa, _⟩ := isEv_iff (List.all_eq_true.1 ha _ (List.getElem_mem hgl))
  have hea : (evs l)[zs[n].toNat]? = some (evOf l[zs[n].toNat]) := by simp [evs, hgl]
  have hNa : nthD l zs[n].toNat = l[zs[n].toNat] := by simp [nthD, List.getD, hgl]
  rw [hxa] at hNa
  generalize evOf l[zs[n].toNat] = a at *
  have c6 : (5 : Nat) = 5 ∧ (0 : Int) ≤ zs[n] ∧ zs[n] < (l.length : Int) := ⟨rfl, by omega, by omega⟩
  have hcA : cA 1 (u8s a.bytes) 1 (u8s e.bytes) = true := by unfold cA; rw [okB_u8s, okB_u8s]; rfl
  have hgA : gA a.kind a.host a.peer (u8s a.bytes) e.kind e.host e.peer (u8s e.bytes) = alike a e := by
    unfold gA
    rw [toBytes_u8s, toBytes_u8s]
    rfl
  cases hal : alike a e
  · refine ⟨ltab [(8, 62618, noL)], no8_ok, .inr ⟨(n : Int), (i : Int), IV.undef, .inl rfl, ?_⟩⟩
    have ht := al_n0 cE gLong cO gO cM gP cA gA cO gT nl cl l nl' cl' (I64 zs) n i
    rw [hNi, q0, nthN hnz, io2, hNa, I64_len] at ht
    exact ht.trans (bif_step (decide_eq_true (by omega)) (bif_step (decide_eq_true c5) (bif_step rfl (bif_stepF kb (bif_step (by rw [decide_eq_false (by omega)]; rfl) (bif_step (decide_eq_true c1) (bif_step rfl (bif_step (by rw [cond_false, decide_eq_false hz0]; rfl)
      (bif_step (decide_eq_true c1) (bif_step rfl (bif_step (by rw [cond_false, decide_eq_false hzi]; rfl) (bif_step (decide_eq_true c1) (bif_step rfl (bif_step (decide_eq_true c6) (bif_step rfl (bif_step (decide_eq_true c5) (bif_step rfl (bif_step hcA
      (bif_step (by show (bif false then true else !gA a.kind a.host a.peer (u8s a.bytes) e.kind e.host e.peer (u8s e.bytes)) = true; rw [hgA, hal]; rfl) rfl)))))))))))))))))))
  · have q := ial_runs (nl := nl) (nl' := nl') (cl := cl) (cl' := cl') (l := l) (i := i) hnz hn1000
    rcases ial_fold nl cl l nl' cl' zs n i zs[n] (zs.take n) 0 with ⟨hnot, hf⟩ | ⟨j, hf⟩
    · rw [hf] at q
      refine ⟨_, one8_ok (F := LF 8 0 (oneF (alV nl cl l nl' cl' (I64 zs) false (n : Int) (i : Int) (.int .i64 0)) [] (.exit 2) (alV nl cl l nl' cl' (I64 zs) false (n : Int) (i : Int) (.int .i64 (n : Int))) [])) (loopF_ok fun vs bx e vs' bx' hm => ?_), .inl ⟨n + 1, .int .i64 (n : Int), .inr ⟨_, rfl⟩, by omega, ?_, ?_⟩⟩
      · obtain ⟨rfl, rfl, rfl, rfl, rfl⟩ := oneF_mem hm
        exact q
      · rw [List.take_succ_eq_append_getElem hnz]
        exact giv_told hG hei k3 (by omega) (by omega) hea hal hnot
      · have ht := al_r0 cE gLong cO gO cM gP cA gA cO gT nl cl l nl' cl' (I64 zs) n i
        rw [hNi, q0, nthN hnz, io2, hNa, I64_len, wadd1 (by omega), wadd1 (by omega)] at ht
        exact ht.trans (bif_step (decide_eq_true (by omega)) (bif_step (decide_eq_true c5) (bif_step rfl (bif_stepF kb (bif_step (by rw [decide_eq_false (by omega)]; rfl) (bif_step (decide_eq_true c1) (bif_step rfl (bif_step (by rw [cond_false, decide_eq_false hz0]; rfl)
          (bif_step (decide_eq_true c1) (bif_step rfl (bif_step (by rw [cond_false, decide_eq_false hzi]; rfl) (bif_step (decide_eq_true c1) (bif_step rfl (bif_step (decide_eq_true c6) (bif_step rfl (bif_step (decide_eq_true c5) (bif_step rfl (bif_step hcA
          (bif_stepF (by show (bif false then true else !gA a.kind a.host a.peer (u8s a.bytes) e.kind e.host e.peer (u8s e.bytes)) = false; rw [hgA, hal]; rfl) (bif_step sameS_t rfl))))))))))))))))))))
    · rw [hf] at q
      refine ⟨_, one8_ok (F := LF 8 0 (oneF (alV nl cl l nl' cl' (I64 zs) false (n : Int) (i : Int) (.int .i64 0)) [] .ret (alV nl cl l nl' cl' (I64 zs) true (n : Int) (i : Int) (.int .i64 (j : Int))) [])) (loopF_ok fun vs bx e vs' bx' hm => ?_), .inr ⟨(n : Int), (i : Int), .int .i64 (j : Int), .inr ⟨_, rfl⟩, ?_⟩⟩
      · obtain ⟨rfl, rfl, rfl, rfl, rfl⟩ := oneF_mem hm
        exact q
      · have ht := al_q0 cE gLong cO gO cM gP cA gA cO gT nl cl l nl' cl' (I64 zs) n i j
        rw [hNi, q0, nthN hnz, io2, hNa, I64_len] at ht
        exact ht.trans (bif_step (decide_eq_true (by omega)) (bif_step (decide_eq_true c5) (bif_step rfl (bif_stepF kb (bif_step (by rw [decide_eq_false (by omega)]; rfl) (bif_step (decide_eq_true c1) (bif_step rfl (bif_step (by rw [cond_false, decide_eq_false hz0]; rfl)
          (bif_step (decide_eq_true c1) (bif_step rfl (bif_step (by rw [cond_false, decide_eq_false hzi]; rfl) (bif_step (decide_eq_true c1) (bif_step rfl (bif_step (decide_eq_true c6) (bif_step rfl (bif_step (decide_eq_true c5) (bif_step rfl (bif_step hcA
          (bif_stepF (by show (bif false then true else !gA a.kind a.host a.peer (u8s a.bytes) e.kind e.host e.peer (u8s e.bytes)) = false; rw [hgA, hal]; rfl) (bif_step sameS_t rfl))))))))))))))))))))
theorem al_round1 {l : List IV} (ha : l.all isEv = true) (hl : l.length ≤ 1000) {nl nl' : Option Bool} {cl cl' : Bool} {zs : List Int} {n i : Nat} {d : Int} (hn : n ≤ zs.length) (hi : i < l.length) (hG : Giv (evs l) i (zs.take n)) :
    AStep nl cl l nl' cl' zs n i (Sx 8 (alV nl cl l nl' cl' (I64 zs) false (n : Int) (i : Int) (.int .i64 d)) []) := by
  obtain ⟨ni, ci, hxi, _⟩ := isEv_iff (List.all_eq_true.1 ha _ (List.getElem_mem hi))
  have hei : (evs l)[i]? = some (evOf l[i]) := by simp [evs, hi]
  have hNi := nthD_at hi
  rw [hxi] at hNi
  generalize evOf l[i] = e at *
  have q0 : Im.intOf (nthD (List.drop 0 (IV.agg [.int .i64 e.kind, .int .u32 e.host, .int .u32 e.peer, .int .i64 e.at_, .fsl ni ci 1 (u8s e.bytes)]).cells) 0) = e.kind := Eq.trans rfl rfl
  have c5 : (5 : Nat) = 5 ∧ (0 : Int) ≤ (i : Int) ∧ (i : Int) < (l.length : Int) := ⟨rfl, by omega, by omega⟩
  by_cases k3 : e.kind = 3
  case neg =>
    refine ⟨ltab [(8, 62618, noL)], no8_ok, .inl ⟨n, (.int .i64 d), .inr ⟨_, rfl⟩, hn, giv_skip hG hei k3, ?_⟩⟩
    have ht := al_n1 cE gLong cO gO cM gP cA gA cO gT nl cl l nl' cl' (I64 zs) n i d
    rw [hNi, q0, wadd1 (by omega)] at ht
    exact ht.trans (bif_step (decide_eq_true (by omega)) (bif_step (decide_eq_true c5) (bif_step rfl (bif_step (bne_iff_ne.2 k3) rfl))))
  case pos =>
  have kb : (e.kind != (3 : Int)) = false := by rw [k3]; rfl
  by_cases hnz : n < zs.length
  case neg =>
    refine ⟨ltab [(8, 62618, noL)], no8_ok, .inr ⟨(n : Int), (i : Int), (.int .i64 d), .inr ⟨_, rfl⟩, ?_⟩⟩
    have ht := al_n1 cE gLong cO gO cM gP cA gA cO gT nl cl l nl' cl' (I64 zs) n i d
    rw [hNi, q0, I64_len] at ht
    exact ht.trans (bif_step (decide_eq_true (by omega)) (bif_step (decide_eq_true c5) (bif_step rfl (bif_stepF kb (bif_stepF (by rw [decide_eq_true (by omega)]; rfl) rfl)))))
  case pos =>
  have c1 : (1 : Nat) = 1 ∧ (0 : Int) ≤ (n : Int) ∧ (n : Int) < (zs.length : Int) := ⟨rfl, by omega, by omega⟩
  have hUl : (zs.take n).length = n := by simp; omega
  have hn1000 : n ≤ 1000 := by
    have h1 := hG.cnt_
    have h2 := cnt_le (ms ((evs l).take i)).out 0
    have h3 := out_len ((evs l).take i)
    have h4 : ((evs l).take i).length ≤ l.length := by simp [evs]; omega
    unfold cnt at h1
    omega
  by_cases hz0 : zs[n] < 0
  case pos =>
    refine ⟨ltab [(8, 62618, noL)], no8_ok, .inr ⟨(n : Int), (i : Int), (.int .i64 d), .inr ⟨_, rfl⟩, ?_⟩⟩
    have ht := al_n1 cE gLong cO gO cM gP cA gA cO gT nl cl l nl' cl' (I64 zs) n i d
    rw [hNi, q0, nthN hnz, io2, I64_len] at ht
    exact ht.trans (bif_step (decide_eq_true (by omega)) (bif_step (decide_eq_true c5) (bif_step rfl (bif_stepF kb (bif_step (by rw [decide_eq_false (by omega)]; rfl) (bif_step (decide_eq_true c1) (bif_step rfl (bif_stepF (by rw [cond_false, decide_eq_true hz0]; rfl) rfl))))))))
  case neg =>
  by_cases hzi : zs[n] ≥ (i : Int)
  case pos =>
    refine ⟨ltab [(8, 62618, noL)], no8_ok, .inr ⟨(n : Int), (i : Int), (.int .i64 d), .inr ⟨_, rfl⟩, ?_⟩⟩
    have ht := al_n1 cE gLong cO gO cM gP cA gA cO gT nl cl l nl' cl' (I64 zs) n i d
    rw [hNi, q0, nthN hnz, io2, I64_len] at ht
    exact ht.trans (bif_step (decide_eq_true (by omega)) (bif_step (decide_eq_true c5) (bif_step rfl (bif_stepF kb (bif_step (by rw [decide_eq_false (by omega)]; rfl) (bif_step (decide_eq_true c1) (bif_step rfl (bif_step (by rw [cond_false, decide_eq_false hz0]; rfl)
      (bif_step (decide_eq_true c1) (bif_step rfl (bif_stepF (by rw [cond_false, decide_eq_true hzi]; rfl) rfl)))))))))))
  case neg =>
  have hgl : zs[n].toNat < l.length := by omega
  obtain ⟨na, ca, hxa, _⟩ := isEv_iff (List.all_eq_true.1 ha _ (List.getElem_mem hgl))
  have hea : (evs l)[zs[n].toNat]? = some (evOf l[zs[n].toNat]) := by simp [evs, hgl]
  have hNa : nthD l zs[n].toNat = l[zs[n].toNat] := by simp [nthD, List.getD, hgl]
  rw [hxa] at hNa
  generalize evOf l[zs[n].toNat] = a at *
  have c6 : (5 : Nat) = 5 ∧ (0 : Int) ≤ zs[n] ∧ zs[n] < (l.length : Int) := ⟨rfl, by omega, by omega⟩
  have hcA : cA 1 (u8s a.bytes) 1 (u8s e.bytes) = true := by unfold cA; rw [okB_u8s, okB_u8s]; rfl
  have hgA : gA a.kind a.host a.peer (u8s a.bytes) e.kind e.host e.peer (u8s e.bytes) = alike a e := by
    unfold gA
    rw [toBytes_u8s, toBytes_u8s]
    rfl
  cases hal : alike a e
  · refine ⟨ltab [(8, 62618, noL)], no8_ok, .inr ⟨(n : Int), (i : Int), (.int .i64 d), .inr ⟨_, rfl⟩, ?_⟩⟩
    have ht := al_n1 cE gLong cO gO cM gP cA gA cO gT nl cl l nl' cl' (I64 zs) n i d
    rw [hNi, q0, nthN hnz, io2, hNa, I64_len] at ht
    exact ht.trans (bif_step (decide_eq_true (by omega)) (bif_step (decide_eq_true c5) (bif_step rfl (bif_stepF kb (bif_step (by rw [decide_eq_false (by omega)]; rfl) (bif_step (decide_eq_true c1) (bif_step rfl (bif_step (by rw [cond_false, decide_eq_false hz0]; rfl)
      (bif_step (decide_eq_true c1) (bif_step rfl (bif_step (by rw [cond_false, decide_eq_false hzi]; rfl) (bif_step (decide_eq_true c1) (bif_step rfl (bif_step (decide_eq_true c6) (bif_step rfl (bif_step (decide_eq_true c5) (bif_step rfl (bif_step hcA
      (bif_step (by show (bif false then true else !gA a.kind a.host a.peer (u8s a.bytes) e.kind e.host e.peer (u8s e.bytes)) = true; rw [hgA, hal]; rfl) rfl)))))))))))))))))))
  · have q := ial_runs (nl := nl) (nl' := nl') (cl := cl) (cl' := cl') (l := l) (i := i) hnz hn1000
    rcases ial_fold nl cl l nl' cl' zs n i zs[n] (zs.take n) 0 with ⟨hnot, hf⟩ | ⟨j, hf⟩
    · rw [hf] at q
      refine ⟨_, one8_ok (F := LF 8 0 (oneF (alV nl cl l nl' cl' (I64 zs) false (n : Int) (i : Int) (.int .i64 0)) [] (.exit 2) (alV nl cl l nl' cl' (I64 zs) false (n : Int) (i : Int) (.int .i64 (n : Int))) [])) (loopF_ok fun vs bx e vs' bx' hm => ?_), .inl ⟨n + 1, .int .i64 (n : Int), .inr ⟨_, rfl⟩, by omega, ?_, ?_⟩⟩
      · obtain ⟨rfl, rfl, rfl, rfl, rfl⟩ := oneF_mem hm
        exact q
      · rw [List.take_succ_eq_append_getElem hnz]
        exact giv_told hG hei k3 (by omega) (by omega) hea hal hnot
      · have ht := al_r1 cE gLong cO gO cM gP cA gA cO gT nl cl l nl' cl' (I64 zs) n i d
        rw [hNi, q0, nthN hnz, io2, hNa, I64_len, wadd1 (by omega), wadd1 (by omega)] at ht
        exact ht.trans (bif_step (decide_eq_true (by omega)) (bif_step (decide_eq_true c5) (bif_step rfl (bif_stepF kb (bif_step (by rw [decide_eq_false (by omega)]; rfl) (bif_step (decide_eq_true c1) (bif_step rfl (bif_step (by rw [cond_false, decide_eq_false hz0]; rfl)
          (bif_step (decide_eq_true c1) (bif_step rfl (bif_step (by rw [cond_false, decide_eq_false hzi]; rfl) (bif_step (decide_eq_true c1) (bif_step rfl (bif_step (decide_eq_true c6) (bif_step rfl (bif_step (decide_eq_true c5) (bif_step rfl (bif_step hcA
          (bif_stepF (by show (bif false then true else !gA a.kind a.host a.peer (u8s a.bytes) e.kind e.host e.peer (u8s e.bytes)) = false; rw [hgA, hal]; rfl) (bif_step sameS_t rfl))))))))))))))))))))
    · rw [hf] at q
      refine ⟨_, one8_ok (F := LF 8 0 (oneF (alV nl cl l nl' cl' (I64 zs) false (n : Int) (i : Int) (.int .i64 0)) [] .ret (alV nl cl l nl' cl' (I64 zs) true (n : Int) (i : Int) (.int .i64 (j : Int))) [])) (loopF_ok fun vs bx e vs' bx' hm => ?_), .inr ⟨(n : Int), (i : Int), .int .i64 (j : Int), .inr ⟨_, rfl⟩, ?_⟩⟩
      · obtain ⟨rfl, rfl, rfl, rfl, rfl⟩ := oneF_mem hm
        exact q
      · have ht := al_q1 cE gLong cO gO cM gP cA gA cO gT nl cl l nl' cl' (I64 zs) n i j d
        rw [hNi, q0, nthN hnz, io2, hNa, I64_len] at ht
        exact ht.trans (bif_step (decide_eq_true (by omega)) (bif_step (decide_eq_true c5) (bif_step rfl (bif_stepF kb (bif_step (by rw [decide_eq_false (by omega)]; rfl) (bif_step (decide_eq_true c1) (bif_step rfl (bif_step (by rw [cond_false, decide_eq_false hz0]; rfl)
          (bif_step (decide_eq_true c1) (bif_step rfl (bif_step (by rw [cond_false, decide_eq_false hzi]; rfl) (bif_step (decide_eq_true c1) (bif_step rfl (bif_step (decide_eq_true c6) (bif_step rfl (bif_step (decide_eq_true c5) (bif_step rfl (bif_step hcA
          (bif_stepF (by show (bif false then true else !gA a.kind a.host a.peer (u8s a.bytes) e.kind e.host e.peer (u8s e.bytes)) = false; rw [hgA, hal]; rfl) (bif_step sameS_t rfl))))))))))))))))))))
end
end Go.Proofs.Ytgbddcdpbgaojaa
