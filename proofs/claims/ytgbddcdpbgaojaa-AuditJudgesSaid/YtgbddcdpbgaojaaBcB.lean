/- The document's Theft: what is proved of the given program. It bears no condition. -/
import Derived.Test.YtgbddcdpbgaojaaBcA
import Derived.Test.YtgbddcdpbgaojaaBdB
namespace Go.Proofs.Ytgbddcdpbgaojaa
open Go Go.Im
set_option linter.unusedVariables false
set_option linter.unusedSimpArgs false
set_option maxRecDepth 20000
noncomputable section

theorem read3_known : Known Try.prog hint 27 (rd2P rowB rdPk rdFa rdFc) := by
  refine known_alt fits fun us T v T1 h => ?_
  unfold rd2P at h
  split at h
  case h_2 => cases h
  rename_i nl cl z l
  simp only [List.mem_cons, List.not_mem_nil, or_false, Prod.mk.injEq, Bool.true_eq] at h
  obtain ⟨h1, rfl, rfl⟩ := h
  refine ⟨[[.fsl nl cl z l]], by simp, Splits.self _, fun ys hy => ?_⟩
  rw [List.mem_singleton] at hy
  subst hy
  exact ⟨noGd_of rfl, tab [(34, rd8P rowB rdPk rdK rdFa rdFc)], fun _ _ => none, tab_cons rread_known tab_nil, loops_none, 30, _, Wk.refl _, (rd3_all rowB rdPk rdK rdFa rdFc nl cl z l).trans (bif_step h1 rfl)⟩

/-! ### Texts -/
def cTx (fs : List IV) (_h : Int) (z : Nat) (b : List IV) : Bool := (fs.all isFc && decide (fs.length ≤ 1000)) && (decide (z = 1 ∨ b.length = 0) && isBytes b)
def gTx (fs : List IV) (h : Int) (b : List IV) : Bool := match faceTx h (fcs fs) with
  | none => false
  | some t => t == toBytes b
theorem tx_runs {fs : List IV} (hf : fs.all isFc = true) (hl : fs.length ≤ 1000) {h : Int} {nl : Option Bool} {cl : Bool} {z : Nat} {b : List IV} (hb : (decide (z = 1 ∨ b.length = 0) && isBytes b) = true) :
    EachOK Try.prog hint (acall Try.prog hint (ovrOf fun _ => none)) 0 (hint.kp 28) (loopAt Try.prog 28 26) (Sx 28 (txV fs h nl cl z b false ((0 : Nat) : Int)) []) (.exit 0)
      (fun _ : Unit => Sx 28 (txV fs h nl cl z b false (fs.length : Int)) []) (foldE (fun i (_ : Unit) (f : Fc) => if (f.1 == h) = true then .inr (Ex.ret, Sx 28 (txV fs h nl cl z b (f.2 == toBytes b) (i : Int)) []) else .inl ()) 0 () (fcs fs)) := by
  have hlen : (fcs fs).length = fs.length := List.length_map ..
  refine runs_each (X := Unit) (l := fcs fs) (n := 30) (ls := fun _ _ => none) loops_none inner0 (fun i _ => Sx 28 (txV fs h nl cl z b false (i : Int)) []) _
    (fun _ _ => True) (by simp) ?_ ?_ (fcs fs).length 0 () (by omega) trivial
  · intro i u hi _
    rw [hlen] at hi
    obtain ⟨ni, ci, hxi, _⟩ := isFc_iff (List.all_eq_true.1 hf _ (List.getElem_mem hi))
    have hei : (fcs fs)[i]'(by rw [hlen]; exact hi) = fcOf fs[i] := by simp [fcs]
    have hNi := nthD_at hi
    rw [hxi] at hNi
    rw [hei]
    generalize fcOf fs[i] = e at *
    have ht := tx_in fs h nl cl z b i
    rw [hNi] at ht
    have q0 : Im.intOf (nthD (List.drop 0 (IV.agg [.int .u32 e.1, .fsl ni ci 1 (u8s e.2)]).cells) 0) = e.1 := Eq.trans rfl rfl
    have q1 : rowL (nthD (List.drop 1 (IV.agg [.int .u32 e.1, .fsl ni ci 1 (u8s e.2)]).cells) 0) = u8s e.2 := Eq.trans rfl rfl
    have q2 : szOf (nthD (List.drop 1 (IV.agg [.int .u32 e.1, .fsl ni ci 1 (u8s e.2)]).cells) 0) = 1 := Eq.trans rfl rfl
    rw [q0, q1, q2, wadd1 (by omega), toBytes_u8s] at ht
    have c2 : (2 : Nat) = 2 ∧ (0 : Int) ≤ (i : Int) ∧ (i : Int) < (fs.length : Int) := ⟨rfl, by omega, by omega⟩
    replace ht := fun r q => ht.trans (bif_step (r := r) (decide_eq_true (by omega)) (bif_step (decide_eq_true c2) (bif_step rfl q)))
    cases hq : e.1 == h
    · exact .inl ⟨(), if_neg (by simp), ht _ (bif_stepF hq rfl), trivial⟩
    · exact .inr ⟨_, _, if_pos rfl, by simp, ht _ (bif_step hq (bif_step (decide_eq_true c2) (bif_step rfl (bif_step (by rw [isBytes_u8s, decide_eq_true (.inl rfl)]; rfl) (bif_step hb rfl)))))⟩
  · intro _ _
    rw [hlen]
    have ht := tx_in fs h nl cl z b fs.length
    exact ht.trans (bif_stepF (decide_eq_false (by omega)) rfl)
theorem text_known : Known Try.prog hint 28 (txP cTx gTx) := by
  refine known_alt fits fun us T v T1 h => ?_
  unfold txP at h
  split at h
  case h_2 => cases h
  rename_i nl0 cl0 fs q nl cl z b
  simp only [List.mem_cons, List.not_mem_nil, or_false, Prod.mk.injEq, Bool.true_eq] at h
  obtain ⟨h1, rfl, rfl⟩ := h
  unfold cTx at h1
  simp only [Bool.and_eq_true, decide_eq_true_eq] at h1
  obtain ⟨⟨hf, hl⟩, hz, hb⟩ := h1
  refine ⟨[[.fsl none false 2 fs, .int .u32 q, .fsl nl cl z b]], by simp, Splits.wk (WkL.cons (Wk.fsl rfl (.inl rfl) (by simp) (.inl rfl)) (WkL.cons (Wk.refl _) (WkL.cons (Wk.refl _) WkL.nil))), fun ys hy => ?_⟩
  rw [List.mem_singleton] at hy
  subst hy
  have Q := tx_runs hf hl (h := q) (nl := nl) (cl := cl) (z := z) (b := b) (by rw [decide_eq_true hz, hb]; rfl)
  rcases foldE_find2 (fun f : Fc => f.1 == q) (fun (i : Nat) (f : Fc) => (Ex.ret, Sx 28 (txV fs q nl cl z b (f.2 == toBytes b) (i : Int)) [])) (fcs fs) 0 with ⟨hv, he⟩ | ⟨j, x, hv, he⟩
  · rw [he] at Q
    have e0 : gTx fs q b = false := by unfold gTx faceTx; rw [hv]; rfl
    rw [e0]
    have hls : LoopsOK Try.prog hint (acall Try.prog hint (ovrOf fun _ => none)) (ltab [(28, 26, LF 28 0 (oneF (txV fs q nl cl z b false 0) [] (.exit 0) (txV fs q nl cl z b false (fs.length : Int)) []))]) := by
      refine ltab_cons (by kernel_rfl) (loopF_ok fun vs bx e vs' bx' hm => ?_) ltab_nil
      obtain ⟨rfl, rfl, rfl, rfl, rfl⟩ := oneF_mem hm
      exact Q
    exact ⟨noGd_of rfl, fun _ => none, _, (fun f F h => by cases h), hls, 30, _, Wk.refl _, (tx_call fs q nl cl z b).trans (bif_step sameS_t rfl)⟩
  · rw [he] at Q
    have e0 : gTx fs q b = (x.2 == toBytes b) := by unfold gTx faceTx; rw [hv]; rfl
    rw [e0]
    have hls : LoopsOK Try.prog hint (acall Try.prog hint (ovrOf fun _ => none)) (ltab [(28, 26, LF 28 0 (oneF (txV fs q nl cl z b false 0) [] .ret (txV fs q nl cl z b (x.2 == toBytes b) (j : Int)) []))]) := by
      refine ltab_cons (by kernel_rfl) (loopF_ok fun vs bx e vs' bx' hm => ?_) ltab_nil
      obtain ⟨rfl, rfl, rfl, rfl, rfl⟩ := oneF_mem hm
      exact Q
    exact ⟨noGd_of rfl, fun _ => none, _, (fun f F h => by cases h), hls, 30, _, Wk.refl _, (tx_ret fs q nl cl z b (j : Int) (x.2 == toBytes b)).trans (bif_step sameS_t rfl)⟩

/-! ### One packet -/
abbrev T6 : FuncId → Option SpecF := tab [(27, rd2P rowB rdPk rdFa rdFc), (28, txP cTx gTx)]
theorem T6_ok : ∀ f F, T6 f = some F → Known Try.prog hint f F := tab_cons read3_known (tab_cons text_known tab_nil)
abbrev N6 : Nat → CallF := acall Try.prog hint (ovrOf T6)
def hF (fs : List IV) (q : Int) (v : XV) : Bool := v.a == (4 : Int) && !gTx fs q v.l1
theorem x0d (x : XV) : nthD (x.iv.cells.drop 0) 0 = .int .i64 x.a := Eq.trans rfl rfl
theorem t6_inner {fs : List IV} (hf : (fs.all isFc && decide (fs.length ≤ 1000)) = true) {l : List IV} {told i0 k h q a : Int} {nl : Option Bool} {cl : Bool} {z : Nat} {b : List IV} {pk : PK} {vs : List XV} (hes : pk.es = vs.map XV.iv) (hv : ∀ v ∈ vs, v.ok = true) (hl : vs.length ≤ 1000) {f1 f2 : Int} (hz : f2 ≠ 0 → vs = []) :
    EachOK Try.prog hint N6 0 (hint.kp 16) (loopAt Try.prog 16 29854) (Sx 16 (t6V l told fs 0 0 i0 (.ptr 0 0) (.ptr 1 0) (.ptr 2 0) (.int .i64 ((0 : Nat) : Int))) (t6B (evD k h q a nl cl z b) pk f1 f2)) (.exit 2)
      (fun _ : Unit => Sx 16 (t6V l told fs 0 0 i0 (.ptr 0 0) (.ptr 1 0) (.ptr 2 0) (.int .i64 (vs.length : Int))) (t6B (evD k h q a nl cl z b) pk f1 f2))
      (foldE (fun j (_ : Unit) v => if hF fs q v = true then .inr (Ex.ret, Sx 16 (t6V l told fs i0 0 i0 (.ptr 0 0) (.ptr 1 0) (.ptr 2 0) (.int .i64 (j : Int))) (t6B (evD k h q a nl cl z b) pk f1 f2)) else .inl ()) 0 () vs) := by
  refine runs_each (X := Unit) (l := vs) (n := 30) (ls := fun _ _ => none) loops_none inner0 (fun j _ => Sx 16 (t6V l told fs 0 0 i0 (.ptr 0 0) (.ptr 1 0) (.ptr 2 0) (.int .i64 (j : Int))) (t6B (evD k h q a nl cl z b) pk f1 f2)) _
    (fun _ _ => True) (by simp) ?_ ?_ vs.length 0 () (by omega) trivial
  · intro j u hj _
    have f0 : f2 = 0 := by
      by_cases h0 : f2 = 0
      · exact h0
      · rw [hz h0] at hj; simp at hj
    have hlen : pk.es.length = vs.length := by rw [hes, List.length_map]
    have hok := hv _ (List.getElem_mem hj)
    have hN : nthD pk.es ((j : Int)).toNat = vs[j].iv := by rw [Int.toNat_natCast, hes, nthD_mapf]
    have ht := t6_in rowB rdPk rdFa rdFc cTx gTx l fs told i0 k h q a nl cl z b pk f1 f2 j
    rw [hN] at ht
    generalize vs[j] = v at *
    obtain ⟨⟨q1, q2, q3, q4⟩, q5, q6⟩ := ok_iff.1 hok
    rw [x0d, x6', intOf_int', szOf_f, rowL_f, wadd1 (by omega)] at ht
    have c8 : (8 : Nat) = 8 ∧ (0 : Int) ≤ (j : Int) ∧ (j : Int) < (pk.es.length : Int) := ⟨rfl, by omega, by omega⟩
    have g1 : (bif f2 == (0 : Int) then decide ((j : Int) < (pk.es.length : Int)) else false) = true := by rw [f0, decide_eq_true c8.2.2]; rfl
    have hc : cTx fs q v.z1 v.l1 = true := by unfold cTx; rw [hf, decide_eq_true q1, isBytes_ok q5]; rfl
    replace ht := fun r w => ht.trans (bif_step (r := r) g1 (bif_step (decide_eq_true c8) (bif_step rfl w)))
    cases h4 : v.a == (4 : Int)
    · have e0 : hF fs q v = false := by unfold hF; rw [h4]; rfl
      exact .inl ⟨(), if_neg (by rw [e0]; simp), ht _ (bif_stepF (by rw [h4]; rfl) rfl), trivial⟩
    · cases hg : gTx fs q v.l1
      · have e0 : hF fs q v = true := by unfold hF; rw [h4, hg]; rfl
        exact .inr ⟨_, _, if_pos e0, by simp, ht _ (bif_step (by rw [h4]; rfl) (bif_step (decide_eq_true c8) (bif_step rfl (bif_step hc (bif_step (by rw [hg]; rfl) rfl)))))⟩
      · have e0 : hF fs q v = false := by unfold hF; rw [h4, hg]; rfl
        exact .inl ⟨(), if_neg (by rw [e0]; simp), ht _ (bif_step (by rw [h4]; rfl) (bif_step (decide_eq_true c8) (bif_step rfl (bif_step hc (bif_stepF (by rw [hg]; rfl) rfl))))), trivial⟩
  · intro _ _
    have hlen : pk.es.length = vs.length := by rw [hes, List.length_map]
    have ht := t6_in rowB rdPk rdFa rdFc cTx gTx l fs told i0 k h q a nl cl z b pk f1 f2 vs.length
    refine ht.trans (bif_stepF ?_ rfl)
    rw [decide_eq_false (by omega)]
    cases f2 == (0 : Int) <;> rfl

/-! ### Rounds -/
theorem in16 : loopsOf (2 * 58) (loopAt Try.prog 16 58) = [(29854, itemAt Try.prog 16 29854)] := by kernel_rfl
theorem one16_ok {F : LoopF} (h1 : LoopOK Try.prog hint N6 (itOf Try.prog hint N6) (hint.kp 16) (itemAt Try.prog 16 29854) F) : LoopsOK Try.prog hint N6 (ltab [(16, 29854, F)]) ∧
    ItemsOK Try.prog hint N6 (itOf Try.prog hint N6) (ltab [(16, 29854, F)] 16) (hint.kp 16) (2 * 58) (loopAt Try.prog 16 58) := by
  refine ⟨ltab_cons (by kernel_rfl) h1 ltab_nil, fun x hx G hG => ?_⟩
  rw [in16, List.mem_singleton] at hx
  subst hx
  cases hG
  exact h1
theorem no16_ok : LoopsOK Try.prog hint N6 (ltab [(16, 29854, noL)]) ∧ ItemsOK Try.prog hint N6 (itOf Try.prog hint N6) (ltab [(16, 29854, noL)] 16) (hint.kp 16) (2 * 58) (loopAt Try.prog 16 58) := one16_ok (fun p s e s' h => by cases h)
/-- What the rounds have left in the last slots. -/
def Sh (x p f k : IV) (bx : List Blk) : Prop := (x = .undef ∧ p = .undef ∧ f = .undef ∧ k = .undef ∧ bx = []) ∨
  (∃ k0 h0 q0 a0 nl0 cl0 z0 b00, x = .ptr 0 0 ∧ p = .undef ∧ f = .undef ∧ k = .undef ∧ bx = [.var false (evD k0 h0 q0 a0 nl0 cl0 z0 b00)]) ∨
  (∃ k0 h0 q0 a0 nl0 cl0 z0 b00 p0 f1 f2 j0, x = .ptr 0 0 ∧ p = .ptr 1 0 ∧ f = .ptr 2 0 ∧ k = .int .i64 j0 ∧ bx = t6B (evD k0 h0 q0 a0 nl0 cl0 z0 b00) p0 f1 f2)
def hit (t : Ev) (fs : List IV) (e : Ev) : Bool :=
  bif e.kind != (2 : Int) then false else bif e.host != t.peer then false else bif e.peer != t.host then false else (rdPk (u8s e.bytes)).xs.any (hF fs e.peer)
theorem any_find {V : Type} (f : V → Bool) (l : List V) : l.any f = (l.find? f).isSome := by
  induction l with
  | nil => rfl
  | cons x l ih =>
    rw [List.any_cons, List.find?_cons, ih]
    cases f x <;> rfl
theorem rdPk_bad {b : List IV} (h : rdFc b ≠ 0) : (rdPk b).es = [] := by
  unfold rdFc at h
  unfold rdPk
  cases hA : rdA b with
  | none => rw [hA] at h; exact absurd rfl h
  | some x => rfl

theorem t6_roundA {l fs : List IV} (ha : l.all isEv = true) (hl : l.length ≤ 1000) (hs : (evs l).all shortE = true) (hf : (fs.all isFc && decide (fs.length ≤ 1000)) = true) {i T : Nat} (hi : i < T) (hT : T < l.length) :
    ∃ ls, (LoopsOK Try.prog hint N6 ls ∧ ItemsOK Try.prog hint N6 (itOf Try.prog hint N6) (ls 16) (hint.kp 16) (2 * 58) (loopAt Try.prog 16 58)) ∧
      ((hit (evOf l[T]) fs (evOf l[i]) = false ∧ ∃ x' p' f' k' bx', Sh x' p' f' k' bx' ∧ Rl T6 ls 0 16 58 (Sx 16 (t6V l (T : Int) fs 0 0 (i : Int) .undef .undef .undef .undef) []) = some (.normal, Sx 16 (t6V l (T : Int) fs 0 0 ((i + 1 : Nat) : Int) x' p' f' k') bx')) ∨
       (hit (evOf l[T]) fs (evOf l[i]) = true ∧ ∃ k1 h1 q1 a1 nl1 cl1 z1 b1 p1 f1' f2' j1, Rl T6 ls 0 16 58 (Sx 16 (t6V l (T : Int) fs 0 0 (i : Int) .undef .undef .undef .undef) []) =
         some (.ret, Sx 16 (t6V l (T : Int) fs (i : Int) 0 (i : Int) (.ptr 0 0) (.ptr 1 0) (.ptr 2 0) (.int .i64 j1)) (t6B (evD k1 h1 q1 a1 nl1 cl1 z1 b1) p1 f1' f2')))) := by
  have hi' : i < l.length := by omega
  obtain ⟨ni, ci, hxi, _⟩ := isEv_iff (List.all_eq_true.1 ha _ (List.getElem_mem hi'))
  obtain ⟨nt, ct, hxt, _⟩ := isEv_iff (List.all_eq_true.1 ha _ (List.getElem_mem hT))
  have hNi := nthD_at hi'
  rw [hxi] at hNi
  have hNt := nthD_at hT
  rw [hxt] at hNt
  have hse : shortE (evOf l[i]) = true := List.all_eq_true.1 hs _ (List.mem_map_of_mem (List.getElem_mem hi'))
  generalize evOf l[i] = e at *
  generalize evOf l[T] = t at *
  have he : e.bytes.length ≤ 100000 := of_decide_eq_true hse
  have q0 : Im.intOf (nthD (nthD l ((i : Int)).toNat).cells 0) = e.kind := by rw [hNi]; exact Eq.trans rfl rfl
  have q1 : Im.intOf (nthD (nthD l ((i : Int)).toNat).cells 1) = e.host := by rw [hNi]; exact Eq.trans rfl rfl
  have q2 : Im.intOf (nthD (nthD l ((i : Int)).toNat).cells 2) = e.peer := by rw [hNi]; exact Eq.trans rfl rfl
  have q3 : Im.intOf (nthD (nthD l ((i : Int)).toNat).cells 3) = e.at_ := by rw [hNi]; exact Eq.trans rfl rfl
  have q4 : Im.rowL (nthD (nthD l ((i : Int)).toNat).cells 4) = u8s e.bytes := by rw [hNi]; exact Eq.trans rfl rfl
  have q5 : Im.szOf (nthD (nthD l ((i : Int)).toNat).cells 4) = 1 := by rw [hNi]; exact Eq.trans rfl rfl
  have q6 : Im.nlOf (nthD (nthD l ((i : Int)).toNat).cells 4) = ni := by rw [hNi]; exact Eq.trans rfl rfl
  have q7 : Im.clOf (nthD (nthD l ((i : Int)).toNat).cells 4) = ci := by rw [hNi]; exact Eq.trans rfl rfl
  have q8 : evC (nthD l ((i : Int)).toNat) = evD e.kind e.host e.peer e.at_ ni ci 1 (u8s e.bytes) := by rw [hNi]; exact Eq.trans rfl rfl
  have q9 : testAll ([LT.i IntKind.i64] ++ ([LT.i IntKind.u32] ++ ([LT.i IntKind.u32] ++ ([LT.i IntKind.i64] ++ ([LT.sl] ++ []))))) 0 (nthD l ((i : Int)).toNat).cells = true := by rw [hNi]; exact Eq.trans rfl rfl
  have p0 : Im.intOf (nthD (List.drop 2 (nthD l ((T : Int)).toNat).cells) 0) = t.peer := by rw [hNt]; exact Eq.trans rfl rfl
  have p1 : Im.intOf (nthD (List.drop 1 (nthD l ((T : Int)).toNat).cells) 0) = t.host := by rw [hNt]; exact Eq.trans rfl rfl
  have p2 : isOf (LT.i IntKind.u32) (nthD (List.drop 2 (nthD l ((T : Int)).toNat).cells) 0) = true := by rw [hNt]; exact Eq.trans rfl rfl
  have p3 : isOf (LT.i IntKind.u32) (nthD (List.drop 1 (nthD l ((T : Int)).toNat).cells) 0) = true := by rw [hNt]; exact Eq.trans rfl rfl
  have cI : True ∧ (0 : Int) ≤ (i : Int) ∧ (i : Int) < (l.length : Int) := ⟨trivial, by omega, by omega⟩
  have cT5 : True ∧ (0 : Int) ≤ (T : Int) ∧ (T : Int) < (l.length : Int) := ⟨trivial, by omega, by omega⟩
  have cLt : (i : Int) < (T : Int) := by omega
  have w1 : IntKind.i64.wrap ((i : Int) + 1) = ((i + 1 : Nat) : Int) := wadd1 (by omega)
  clear hNi hNt hxi hxt
  have hc : rowB 1 (u8s e.bytes) = true := by
    unfold rowB
    rw [okB_u8s, decide_eq_true (⟨rfl, by rw [u8s_len]; exact he⟩ : (1 : Nat) = 1 ∧ (u8s e.bytes).length ≤ 100000)]; rfl
  have base := t6_A0 rowB rdPk rdFa rdFc cTx gTx l fs T i
  simp only [q0, q1, q2, q3, q4, q5, q6, q7, p0, p1, w1] at base
  replace base := fun r w => base.trans (bif_step (r := r) (decide_eq_true cLt) (bif_step (decide_eq_true cI) (bif_step q9 w)))
  cases k2 : e.kind != (2 : Int)
  case true => exact ⟨_, no16_ok, .inl ⟨by unfold hit; rw [k2]; rfl, _, _, _, _, _, .inr (.inl ⟨_, _, _, _, _, _, _, _, rfl, rfl, rfl, rfl, rfl⟩), base _ (bif_stepF (by rw [k2]; rfl) rfl)⟩⟩
  replace base := fun r w => base _ (bif_step (r := r) (by rw [k2]; rfl) (bif_step (decide_eq_true cT5) (bif_step p2 w)))
  cases kh : e.host != t.peer
  case true => exact ⟨_, no16_ok, .inl ⟨by unfold hit; rw [k2, kh]; rfl, _, _, _, _, _, .inr (.inl ⟨_, _, _, _, _, _, _, _, rfl, rfl, rfl, rfl, rfl⟩), base _ (bif_stepF (by rw [kh]; rfl) rfl)⟩⟩
  replace base := fun r w => base _ (bif_step (r := r) (by rw [kh]; rfl) (bif_step (decide_eq_true cT5) (bif_step p3 w)))
  cases kp : e.peer != t.host
  case true => exact ⟨_, no16_ok, .inl ⟨by unfold hit; rw [k2, kh, kp]; rfl, _, _, _, _, _, .inr (.inl ⟨_, _, _, _, _, _, _, _, rfl, rfl, rfl, rfl, rfl⟩), base _ (bif_step (by rw [kp]; rfl) rfl)⟩⟩
  clear base
  have hh : hit t fs e = (rdPk (u8s e.bytes)).xs.any (hF fs e.peer) := by unfold hit; rw [k2, kh, kp]; rfl
  have hbo : okB (u8s e.bytes) = true := okB_u8s _
  obtain ⟨hX, hXl⟩ := rdPk_es (l := u8s e.bytes) hbo (by rw [u8s_len]; exact he)
  obtain ⟨e1, e2⟩ := xs_eq hX
  have hxl : (xsOf (rdPk (u8s e.bytes)).es).length = (rdPk (u8s e.bytes)).es.length := by unfold xsOf; rw [List.length_map]
  have hI := t6_inner hf (l := l) (told := (T : Int)) (i0 := (i : Int)) (k := e.kind) (h := e.host) (q := e.peer) (a := e.at_) (nl := ni) (cl := ci) (z := 1) (b := u8s e.bytes) (pk := rdPk (u8s e.bytes)) (vs := xsOf (rdPk (u8s e.bytes)).es) e1 e2 (by omega) (f1 := rdFa (u8s e.bytes)) (f2 := rdFc (u8s e.bytes)) (fun h0 => by rw [rdPk_bad h0]; rfl)
  rw [hh, any_find]
  show ∃ ls, _ ∧ ((((xsOf (rdPk (u8s e.bytes)).es).find? (hF fs e.peer)).isSome = false ∧ _) ∨ (((xsOf (rdPk (u8s e.bytes)).es).find? (hF fs e.peer)).isSome = true ∧ _))
  rcases foldE_find2 (hF fs e.peer) (fun (j : Nat) (_ : XV) => (Ex.ret, Sx 16 (t6V l (T : Int) fs (i : Int) 0 (i : Int) (.ptr 0 0) (.ptr 1 0) (.ptr 2 0) (.int .i64 (j : Int))) (t6B (evD e.kind e.host e.peer e.at_ ni ci 1 (u8s e.bytes)) (rdPk (u8s e.bytes)) (rdFa (u8s e.bytes)) (rdFc (u8s e.bytes))))) (xsOf (rdPk (u8s e.bytes)).es) 0 with ⟨hv, hfo⟩ | ⟨j, v, hv, hfo⟩
  · rw [hfo] at hI
    rw [hxl] at hI
    have ht := t6_A1 rowB rdPk rdFa rdFc cTx gTx l fs T i
    simp only [q0, q1, q2, q3, q4, q5, q6, q7, q8, p0, p1, w1] at ht
    refine ⟨_, one16_ok ?_, .inl ⟨by rw [hv]; rfl, _, _, _, _, _, .inr (.inr ⟨_, _, _, _, _, _, _, _, _, _, _, _, rfl, rfl, rfl, rfl, rfl⟩), ht.trans (bif_step (decide_eq_true cLt) (bif_step (decide_eq_true cI) (bif_step q9 (bif_step (by rw [k2]; rfl) (bif_step (decide_eq_true cT5) (bif_step p2 (bif_step (by rw [kh]; rfl) (bif_step (decide_eq_true cT5) (bif_step p3 (bif_stepF (by rw [kp]; rfl) (bif_step hc (bif_step sameS_t rfl))))))))))))⟩⟩
    refine loopF_ok fun vs bx e vs' bx' hm => ?_
    obtain ⟨rfl, rfl, rfl, rfl, rfl⟩ := oneF_mem hm
    exact hI
  · rw [hfo] at hI
    have ht := t6_A2 (j : Int) rowB rdPk rdFa rdFc cTx gTx l fs T i
    simp only [q0, q1, q2, q3, q4, q5, q6, q7, q8, p0, p1, w1] at ht
    refine ⟨_, one16_ok ?_, .inr ⟨by rw [hv]; rfl, _, _, _, _, _, _, _, _, _, _, _, _, ht.trans (bif_step (decide_eq_true cLt) (bif_step (decide_eq_true cI) (bif_step q9 (bif_step (by rw [k2]; rfl) (bif_step (decide_eq_true cT5) (bif_step p2 (bif_step (by rw [kh]; rfl) (bif_step (decide_eq_true cT5) (bif_step p3 (bif_stepF (by rw [kp]; rfl) (bif_step hc (bif_step sameS_t rfl))))))))))))⟩⟩
    refine loopF_ok fun vs bx e vs' bx' hm => ?_
    obtain ⟨rfl, rfl, rfl, rfl, rfl⟩ := oneF_mem hm
    exact hI

theorem t6_roundB {l fs : List IV} (ha : l.all isEv = true) (hl : l.length ≤ 1000) (hs : (evs l).all shortE = true) (hf : (fs.all isFc && decide (fs.length ≤ 1000)) = true) {i T : Nat} (hi : i < T) (hT : T < l.length) {k9 h9 q10 a9 : Int} {nl9 : Option Bool} {cl9 : Bool} {z9 : Nat} {b99 : List IV} :
    ∃ ls, (LoopsOK Try.prog hint N6 ls ∧ ItemsOK Try.prog hint N6 (itOf Try.prog hint N6) (ls 16) (hint.kp 16) (2 * 58) (loopAt Try.prog 16 58)) ∧
      ((hit (evOf l[T]) fs (evOf l[i]) = false ∧ ∃ x' p' f' k' bx', Sh x' p' f' k' bx' ∧ Rl T6 ls 0 16 58 (Sx 16 (t6V l (T : Int) fs 0 0 (i : Int) (.ptr 0 0) .undef .undef .undef) [.var false (evD k9 h9 q10 a9 nl9 cl9 z9 b99)]) = some (.normal, Sx 16 (t6V l (T : Int) fs 0 0 ((i + 1 : Nat) : Int) x' p' f' k') bx')) ∨
       (hit (evOf l[T]) fs (evOf l[i]) = true ∧ ∃ k1 h1 q1 a1 nl1 cl1 z1 b1 p1 f1' f2' j1, Rl T6 ls 0 16 58 (Sx 16 (t6V l (T : Int) fs 0 0 (i : Int) (.ptr 0 0) .undef .undef .undef) [.var false (evD k9 h9 q10 a9 nl9 cl9 z9 b99)]) =
         some (.ret, Sx 16 (t6V l (T : Int) fs (i : Int) 0 (i : Int) (.ptr 0 0) (.ptr 1 0) (.ptr 2 0) (.int .i64 j1)) (t6B (evD k1 h1 q1 a1 nl1 cl1 z1 b1) p1 f1' f2')))) := by
  have hi' : i < l.length := by omega
  obtain ⟨ni, ci, hxi, _⟩ := isEv_iff (List.all_eq_true.1 ha _ (List.getElem_mem hi'))
  obtain ⟨nt, ct, hxt, _⟩ := isEv_iff (List.all_eq_true.1 ha _ (List.getElem_mem hT))
  have hNi := nthD_at hi'
  rw [hxi] at hNi
  have hNt := nthD_at hT
  rw [hxt] at hNt
  have hse : shortE (evOf l[i]) = true := List.all_eq_true.1 hs _ (List.mem_map_of_mem (List.getElem_mem hi'))
  generalize evOf l[i] = e at *
  generalize evOf l[T] = t at *
  have he : e.bytes.length ≤ 100000 := of_decide_eq_true hse
  have q0 : Im.intOf (nthD (nthD l ((i : Int)).toNat).cells 0) = e.kind := by rw [hNi]; exact Eq.trans rfl rfl
  have q1 : Im.intOf (nthD (nthD l ((i : Int)).toNat).cells 1) = e.host := by rw [hNi]; exact Eq.trans rfl rfl
  have q2 : Im.intOf (nthD (nthD l ((i : Int)).toNat).cells 2) = e.peer := by rw [hNi]; exact Eq.trans rfl rfl
  have q3 : Im.intOf (nthD (nthD l ((i : Int)).toNat).cells 3) = e.at_ := by rw [hNi]; exact Eq.trans rfl rfl
  have q4 : Im.rowL (nthD (nthD l ((i : Int)).toNat).cells 4) = u8s e.bytes := by rw [hNi]; exact Eq.trans rfl rfl
  have q5 : Im.szOf (nthD (nthD l ((i : Int)).toNat).cells 4) = 1 := by rw [hNi]; exact Eq.trans rfl rfl
  have q6 : Im.nlOf (nthD (nthD l ((i : Int)).toNat).cells 4) = ni := by rw [hNi]; exact Eq.trans rfl rfl
  have q7 : Im.clOf (nthD (nthD l ((i : Int)).toNat).cells 4) = ci := by rw [hNi]; exact Eq.trans rfl rfl
  have q8 : evC (nthD l ((i : Int)).toNat) = evD e.kind e.host e.peer e.at_ ni ci 1 (u8s e.bytes) := by rw [hNi]; exact Eq.trans rfl rfl
  have q9 : testAll ([LT.i IntKind.i64] ++ ([LT.i IntKind.u32] ++ ([LT.i IntKind.u32] ++ ([LT.i IntKind.i64] ++ ([LT.sl] ++ []))))) 0 (nthD l ((i : Int)).toNat).cells = true := by rw [hNi]; exact Eq.trans rfl rfl
  have p0 : Im.intOf (nthD (List.drop 2 (nthD l ((T : Int)).toNat).cells) 0) = t.peer := by rw [hNt]; exact Eq.trans rfl rfl
  have p1 : Im.intOf (nthD (List.drop 1 (nthD l ((T : Int)).toNat).cells) 0) = t.host := by rw [hNt]; exact Eq.trans rfl rfl
  have p2 : isOf (LT.i IntKind.u32) (nthD (List.drop 2 (nthD l ((T : Int)).toNat).cells) 0) = true := by rw [hNt]; exact Eq.trans rfl rfl
  have p3 : isOf (LT.i IntKind.u32) (nthD (List.drop 1 (nthD l ((T : Int)).toNat).cells) 0) = true := by rw [hNt]; exact Eq.trans rfl rfl
  have cI : True ∧ (0 : Int) ≤ (i : Int) ∧ (i : Int) < (l.length : Int) := ⟨trivial, by omega, by omega⟩
  have cT5 : True ∧ (0 : Int) ≤ (T : Int) ∧ (T : Int) < (l.length : Int) := ⟨trivial, by omega, by omega⟩
  have cLt : (i : Int) < (T : Int) := by omega
  have w1 : IntKind.i64.wrap ((i : Int) + 1) = ((i + 1 : Nat) : Int) := wadd1 (by omega)
  clear hNi hNt hxi hxt
  have hc : rowB 1 (u8s e.bytes) = true := by
    unfold rowB
    rw [okB_u8s, decide_eq_true (⟨rfl, by rw [u8s_len]; exact he⟩ : (1 : Nat) = 1 ∧ (u8s e.bytes).length ≤ 100000)]; rfl
  have base := t6_B0 rowB rdPk rdFa rdFc cTx gTx l fs T i k9 h9 q10 a9 nl9 cl9 z9 b99
  simp only [q0, q1, q2, q3, q4, q5, q6, q7, p0, p1, w1] at base
  replace base := fun r w => base.trans (bif_step (r := r) (decide_eq_true cLt) (bif_step (decide_eq_true cI) (bif_step q9 w)))
  cases k2 : e.kind != (2 : Int)
  case true => exact ⟨_, no16_ok, .inl ⟨by unfold hit; rw [k2]; rfl, _, _, _, _, _, .inr (.inl ⟨_, _, _, _, _, _, _, _, rfl, rfl, rfl, rfl, rfl⟩), base _ (bif_stepF (by rw [k2]; rfl) rfl)⟩⟩
  replace base := fun r w => base _ (bif_step (r := r) (by rw [k2]; rfl) (bif_step (decide_eq_true cT5) (bif_step p2 w)))
  cases kh : e.host != t.peer
  case true => exact ⟨_, no16_ok, .inl ⟨by unfold hit; rw [k2, kh]; rfl, _, _, _, _, _, .inr (.inl ⟨_, _, _, _, _, _, _, _, rfl, rfl, rfl, rfl, rfl⟩), base _ (bif_stepF (by rw [kh]; rfl) rfl)⟩⟩
  replace base := fun r w => base _ (bif_step (r := r) (by rw [kh]; rfl) (bif_step (decide_eq_true cT5) (bif_step p3 w)))
  cases kp : e.peer != t.host
  case true => exact ⟨_, no16_ok, .inl ⟨by unfold hit; rw [k2, kh, kp]; rfl, _, _, _, _, _, .inr (.inl ⟨_, _, _, _, _, _, _, _, rfl, rfl, rfl, rfl, rfl⟩), base _ (bif_step (by rw [kp]; rfl) rfl)⟩⟩
  clear base
  have hh : hit t fs e = (rdPk (u8s e.bytes)).xs.any (hF fs e.peer) := by unfold hit; rw [k2, kh, kp]; rfl
  have hbo : okB (u8s e.bytes) = true := okB_u8s _
  obtain ⟨hX, hXl⟩ := rdPk_es (l := u8s e.bytes) hbo (by rw [u8s_len]; exact he)
  obtain ⟨e1, e2⟩ := xs_eq hX
  have hxl : (xsOf (rdPk (u8s e.bytes)).es).length = (rdPk (u8s e.bytes)).es.length := by unfold xsOf; rw [List.length_map]
  have hI := t6_inner hf (l := l) (told := (T : Int)) (i0 := (i : Int)) (k := e.kind) (h := e.host) (q := e.peer) (a := e.at_) (nl := ni) (cl := ci) (z := 1) (b := u8s e.bytes) (pk := rdPk (u8s e.bytes)) (vs := xsOf (rdPk (u8s e.bytes)).es) e1 e2 (by omega) (f1 := rdFa (u8s e.bytes)) (f2 := rdFc (u8s e.bytes)) (fun h0 => by rw [rdPk_bad h0]; rfl)
  rw [hh, any_find]
  show ∃ ls, _ ∧ ((((xsOf (rdPk (u8s e.bytes)).es).find? (hF fs e.peer)).isSome = false ∧ _) ∨ (((xsOf (rdPk (u8s e.bytes)).es).find? (hF fs e.peer)).isSome = true ∧ _))
  rcases foldE_find2 (hF fs e.peer) (fun (j : Nat) (_ : XV) => (Ex.ret, Sx 16 (t6V l (T : Int) fs (i : Int) 0 (i : Int) (.ptr 0 0) (.ptr 1 0) (.ptr 2 0) (.int .i64 (j : Int))) (t6B (evD e.kind e.host e.peer e.at_ ni ci 1 (u8s e.bytes)) (rdPk (u8s e.bytes)) (rdFa (u8s e.bytes)) (rdFc (u8s e.bytes))))) (xsOf (rdPk (u8s e.bytes)).es) 0 with ⟨hv, hfo⟩ | ⟨j, v, hv, hfo⟩
  · rw [hfo] at hI
    rw [hxl] at hI
    have ht := t6_B1 rowB rdPk rdFa rdFc cTx gTx l fs T i k9 h9 q10 a9 nl9 cl9 z9 b99
    simp only [q0, q1, q2, q3, q4, q5, q6, q7, q8, p0, p1, w1] at ht
    refine ⟨_, one16_ok ?_, .inl ⟨by rw [hv]; rfl, _, _, _, _, _, .inr (.inr ⟨_, _, _, _, _, _, _, _, _, _, _, _, rfl, rfl, rfl, rfl, rfl⟩), ht.trans (bif_step (decide_eq_true cLt) (bif_step (decide_eq_true cI) (bif_step q9 (bif_step (by rw [k2]; rfl) (bif_step (decide_eq_true cT5) (bif_step p2 (bif_step (by rw [kh]; rfl) (bif_step (decide_eq_true cT5) (bif_step p3 (bif_stepF (by rw [kp]; rfl) (bif_step hc (bif_step sameS_t rfl))))))))))))⟩⟩
    refine loopF_ok fun vs bx e vs' bx' hm => ?_
    obtain ⟨rfl, rfl, rfl, rfl, rfl⟩ := oneF_mem hm
    exact hI
  · rw [hfo] at hI
    have ht := t6_B2 (j : Int) rowB rdPk rdFa rdFc cTx gTx l fs T i k9 h9 q10 a9 nl9 cl9 z9 b99
    simp only [q0, q1, q2, q3, q4, q5, q6, q7, q8, p0, p1, w1] at ht
    refine ⟨_, one16_ok ?_, .inr ⟨by rw [hv]; rfl, _, _, _, _, _, _, _, _, _, _, _, _, ht.trans (bif_step (decide_eq_true cLt) (bif_step (decide_eq_true cI) (bif_step q9 (bif_step (by rw [k2]; rfl) (bif_step (decide_eq_true cT5) (bif_step p2 (bif_step (by rw [kh]; rfl) (bif_step (decide_eq_true cT5) (bif_step p3 (bif_stepF (by rw [kp]; rfl) (bif_step hc (bif_step sameS_t rfl))))))))))))⟩⟩
    refine loopF_ok fun vs bx e vs' bx' hm => ?_
    obtain ⟨rfl, rfl, rfl, rfl, rfl⟩ := oneF_mem hm
    exact hI

theorem t6_roundC {l fs : List IV} (ha : l.all isEv = true) (hl : l.length ≤ 1000) (hs : (evs l).all shortE = true) (hf : (fs.all isFc && decide (fs.length ≤ 1000)) = true) {i T : Nat} (hi : i < T) (hT : T < l.length) {k9 h9 q10 a9 : Int} {nl9 : Option Bool} {cl9 : Bool} {z9 : Nat} {b99 : List IV} {p9 : PK} {g1 g2 j9 : Int} :
    ∃ ls, (LoopsOK Try.prog hint N6 ls ∧ ItemsOK Try.prog hint N6 (itOf Try.prog hint N6) (ls 16) (hint.kp 16) (2 * 58) (loopAt Try.prog 16 58)) ∧
      ((hit (evOf l[T]) fs (evOf l[i]) = false ∧ ∃ x' p' f' k' bx', Sh x' p' f' k' bx' ∧ Rl T6 ls 0 16 58 (Sx 16 (t6V l (T : Int) fs 0 0 (i : Int) (.ptr 0 0) (.ptr 1 0) (.ptr 2 0) (.int .i64 j9)) (t6B (evD k9 h9 q10 a9 nl9 cl9 z9 b99) p9 g1 g2)) = some (.normal, Sx 16 (t6V l (T : Int) fs 0 0 ((i + 1 : Nat) : Int) x' p' f' k') bx')) ∨
       (hit (evOf l[T]) fs (evOf l[i]) = true ∧ ∃ k1 h1 q1 a1 nl1 cl1 z1 b1 p1 f1' f2' j1, Rl T6 ls 0 16 58 (Sx 16 (t6V l (T : Int) fs 0 0 (i : Int) (.ptr 0 0) (.ptr 1 0) (.ptr 2 0) (.int .i64 j9)) (t6B (evD k9 h9 q10 a9 nl9 cl9 z9 b99) p9 g1 g2)) =
         some (.ret, Sx 16 (t6V l (T : Int) fs (i : Int) 0 (i : Int) (.ptr 0 0) (.ptr 1 0) (.ptr 2 0) (.int .i64 j1)) (t6B (evD k1 h1 q1 a1 nl1 cl1 z1 b1) p1 f1' f2')))) := by
  have hi' : i < l.length := by omega
  obtain ⟨ni, ci, hxi, _⟩ := isEv_iff (List.all_eq_true.1 ha _ (List.getElem_mem hi'))
  obtain ⟨nt, ct, hxt, _⟩ := isEv_iff (List.all_eq_true.1 ha _ (List.getElem_mem hT))
  have hNi := nthD_at hi'
  rw [hxi] at hNi
  have hNt := nthD_at hT
  rw [hxt] at hNt
  have hse : shortE (evOf l[i]) = true := List.all_eq_true.1 hs _ (List.mem_map_of_mem (List.getElem_mem hi'))
  generalize evOf l[i] = e at *
  generalize evOf l[T] = t at *
  have he : e.bytes.length ≤ 100000 := of_decide_eq_true hse
  have q0 : Im.intOf (nthD (nthD l ((i : Int)).toNat).cells 0) = e.kind := by rw [hNi]; exact Eq.trans rfl rfl
  have q1 : Im.intOf (nthD (nthD l ((i : Int)).toNat).cells 1) = e.host := by rw [hNi]; exact Eq.trans rfl rfl
  have q2 : Im.intOf (nthD (nthD l ((i : Int)).toNat).cells 2) = e.peer := by rw [hNi]; exact Eq.trans rfl rfl
  have q3 : Im.intOf (nthD (nthD l ((i : Int)).toNat).cells 3) = e.at_ := by rw [hNi]; exact Eq.trans rfl rfl
  have q4 : Im.rowL (nthD (nthD l ((i : Int)).toNat).cells 4) = u8s e.bytes := by rw [hNi]; exact Eq.trans rfl rfl
  have q5 : Im.szOf (nthD (nthD l ((i : Int)).toNat).cells 4) = 1 := by rw [hNi]; exact Eq.trans rfl rfl
  have q6 : Im.nlOf (nthD (nthD l ((i : Int)).toNat).cells 4) = ni := by rw [hNi]; exact Eq.trans rfl rfl
  have q7 : Im.clOf (nthD (nthD l ((i : Int)).toNat).cells 4) = ci := by rw [hNi]; exact Eq.trans rfl rfl
  have q8 : evC (nthD l ((i : Int)).toNat) = evD e.kind e.host e.peer e.at_ ni ci 1 (u8s e.bytes) := by rw [hNi]; exact Eq.trans rfl rfl
  have q9 : testAll ([LT.i IntKind.i64] ++ ([LT.i IntKind.u32] ++ ([LT.i IntKind.u32] ++ ([LT.i IntKind.i64] ++ ([LT.sl] ++ []))))) 0 (nthD l ((i : Int)).toNat).cells = true := by rw [hNi]; exact Eq.trans rfl rfl
  have p0 : Im.intOf (nthD (List.drop 2 (nthD l ((T : Int)).toNat).cells) 0) = t.peer := by rw [hNt]; exact Eq.trans rfl rfl
  have p1 : Im.intOf (nthD (List.drop 1 (nthD l ((T : Int)).toNat).cells) 0) = t.host := by rw [hNt]; exact Eq.trans rfl rfl
  have p2 : isOf (LT.i IntKind.u32) (nthD (List.drop 2 (nthD l ((T : Int)).toNat).cells) 0) = true := by rw [hNt]; exact Eq.trans rfl rfl
  have p3 : isOf (LT.i IntKind.u32) (nthD (List.drop 1 (nthD l ((T : Int)).toNat).cells) 0) = true := by rw [hNt]; exact Eq.trans rfl rfl
  have cI : True ∧ (0 : Int) ≤ (i : Int) ∧ (i : Int) < (l.length : Int) := ⟨trivial, by omega, by omega⟩
  have cT5 : True ∧ (0 : Int) ≤ (T : Int) ∧ (T : Int) < (l.length : Int) := ⟨trivial, by omega, by omega⟩
  have cLt : (i : Int) < (T : Int) := by omega
  have w1 : IntKind.i64.wrap ((i : Int) + 1) = ((i + 1 : Nat) : Int) := wadd1 (by omega)
  clear hNi hNt hxi hxt
  have hc : rowB 1 (u8s e.bytes) = true := by
    unfold rowB
    rw [okB_u8s, decide_eq_true (⟨rfl, by rw [u8s_len]; exact he⟩ : (1 : Nat) = 1 ∧ (u8s e.bytes).length ≤ 100000)]; rfl
  have base := t6_C0 rowB rdPk rdFa rdFc cTx gTx l fs T i k9 h9 q10 a9 nl9 cl9 z9 b99 p9 g1 g2 j9
  simp only [q0, q1, q2, q3, q4, q5, q6, q7, p0, p1, w1] at base
  replace base := fun r w => base.trans (bif_step (r := r) (decide_eq_true cLt) (bif_step (decide_eq_true cI) (bif_step q9 w)))
  cases k2 : e.kind != (2 : Int)
  case true => exact ⟨_, no16_ok, .inl ⟨by unfold hit; rw [k2]; rfl, _, _, _, _, _, .inr (.inr ⟨_, _, _, _, _, _, _, _, _, _, _, _, rfl, rfl, rfl, rfl, rfl⟩), base _ (bif_stepF (by rw [k2]; rfl) rfl)⟩⟩
  replace base := fun r w => base _ (bif_step (r := r) (by rw [k2]; rfl) (bif_step (decide_eq_true cT5) (bif_step p2 w)))
  cases kh : e.host != t.peer
  case true => exact ⟨_, no16_ok, .inl ⟨by unfold hit; rw [k2, kh]; rfl, _, _, _, _, _, .inr (.inr ⟨_, _, _, _, _, _, _, _, _, _, _, _, rfl, rfl, rfl, rfl, rfl⟩), base _ (bif_stepF (by rw [kh]; rfl) rfl)⟩⟩
  replace base := fun r w => base _ (bif_step (r := r) (by rw [kh]; rfl) (bif_step (decide_eq_true cT5) (bif_step p3 w)))
  cases kp : e.peer != t.host
  case true => exact ⟨_, no16_ok, .inl ⟨by unfold hit; rw [k2, kh, kp]; rfl, _, _, _, _, _, .inr (.inr ⟨_, _, _, _, _, _, _, _, _, _, _, _, rfl, rfl, rfl, rfl, rfl⟩), base _ (bif_step (by rw [kp]; rfl) rfl)⟩⟩
  clear base
  have hh : hit t fs e = (rdPk (u8s e.bytes)).xs.any (hF fs e.peer) := by unfold hit; rw [k2, kh, kp]; rfl
  have hbo : okB (u8s e.bytes) = true := okB_u8s _
  obtain ⟨hX, hXl⟩ := rdPk_es (l := u8s e.bytes) hbo (by rw [u8s_len]; exact he)
  obtain ⟨e1, e2⟩ := xs_eq hX
  have hxl : (xsOf (rdPk (u8s e.bytes)).es).length = (rdPk (u8s e.bytes)).es.length := by unfold xsOf; rw [List.length_map]
  have hI := t6_inner hf (l := l) (told := (T : Int)) (i0 := (i : Int)) (k := e.kind) (h := e.host) (q := e.peer) (a := e.at_) (nl := ni) (cl := ci) (z := 1) (b := u8s e.bytes) (pk := rdPk (u8s e.bytes)) (vs := xsOf (rdPk (u8s e.bytes)).es) e1 e2 (by omega) (f1 := rdFa (u8s e.bytes)) (f2 := rdFc (u8s e.bytes)) (fun h0 => by rw [rdPk_bad h0]; rfl)
  rw [hh, any_find]
  show ∃ ls, _ ∧ ((((xsOf (rdPk (u8s e.bytes)).es).find? (hF fs e.peer)).isSome = false ∧ _) ∨ (((xsOf (rdPk (u8s e.bytes)).es).find? (hF fs e.peer)).isSome = true ∧ _))
  rcases foldE_find2 (hF fs e.peer) (fun (j : Nat) (_ : XV) => (Ex.ret, Sx 16 (t6V l (T : Int) fs (i : Int) 0 (i : Int) (.ptr 0 0) (.ptr 1 0) (.ptr 2 0) (.int .i64 (j : Int))) (t6B (evD e.kind e.host e.peer e.at_ ni ci 1 (u8s e.bytes)) (rdPk (u8s e.bytes)) (rdFa (u8s e.bytes)) (rdFc (u8s e.bytes))))) (xsOf (rdPk (u8s e.bytes)).es) 0 with ⟨hv, hfo⟩ | ⟨j, v, hv, hfo⟩
  · rw [hfo] at hI
    rw [hxl] at hI
    have ht := t6_C1 rowB rdPk rdFa rdFc cTx gTx l fs T i k9 h9 q10 a9 nl9 cl9 z9 b99 p9 g1 g2 j9
    simp only [q0, q1, q2, q3, q4, q5, q6, q7, q8, p0, p1, w1] at ht
    refine ⟨_, one16_ok ?_, .inl ⟨by rw [hv]; rfl, _, _, _, _, _, .inr (.inr ⟨_, _, _, _, _, _, _, _, _, _, _, _, rfl, rfl, rfl, rfl, rfl⟩), ht.trans (bif_step (decide_eq_true cLt) (bif_step (decide_eq_true cI) (bif_step q9 (bif_step (by rw [k2]; rfl) (bif_step (decide_eq_true cT5) (bif_step p2 (bif_step (by rw [kh]; rfl) (bif_step (decide_eq_true cT5) (bif_step p3 (bif_stepF (by rw [kp]; rfl) (bif_step hc (bif_step sameS_t rfl))))))))))))⟩⟩
    refine loopF_ok fun vs bx e vs' bx' hm => ?_
    obtain ⟨rfl, rfl, rfl, rfl, rfl⟩ := oneF_mem hm
    exact hI
  · rw [hfo] at hI
    have ht := t6_C2 (j : Int) rowB rdPk rdFa rdFc cTx gTx l fs T i k9 h9 q10 a9 nl9 cl9 z9 b99 p9 g1 g2 j9
    simp only [q0, q1, q2, q3, q4, q5, q6, q7, q8, p0, p1, w1] at ht
    refine ⟨_, one16_ok ?_, .inr ⟨by rw [hv]; rfl, _, _, _, _, _, _, _, _, _, _, _, _, ht.trans (bif_step (decide_eq_true cLt) (bif_step (decide_eq_true cI) (bif_step q9 (bif_step (by rw [k2]; rfl) (bif_step (decide_eq_true cT5) (bif_step p2 (bif_step (by rw [kh]; rfl) (bif_step (decide_eq_true cT5) (bif_step p3 (bif_stepF (by rw [kp]; rfl) (bif_step hc (bif_step sameS_t rfl))))))))))))⟩⟩
    refine loopF_ok fun vs bx e vs' bx' hm => ?_
    obtain ⟨rfl, rfl, rfl, rfl, rfl⟩ := oneF_mem hm
    exact hI
end
end Go.Proofs.Ytgbddcdpbgaojaa
