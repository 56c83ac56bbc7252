/- Packets that steal: what is proved of the given program. It bears no condition. -/
import Derived.Test.YtgbddcdpbgaojaaBaC
namespace Go.Proofs.Ytgbddcdpbgaojaa
open Go Go.Im
set_option linter.unusedVariables false
set_option linter.unusedSimpArgs false
set_option maxRecDepth 20000
noncomputable section

/-! ### A packet that is read -/
theorem rdPk_iv8 (l : List IV) : (rdPk l).iv = (rdPk l).iv8 := by
  unfold rdPk
  cases rdA l <;> rfl
theorem rd8_eq : rdP rowB rdPk rdK rdFa rdFc = rd8P rowB rdPk rdK rdFa rdFc := by
  funext xs T
  unfold rdP rd8P
  split
  · rename_i nl cl z l
    simp only [rdPk_iv8]
  · rename_i h
    split
    · rename_i nl cl z l
      exact absurd rfl (h nl cl z l rfl)
    · rfl
theorem rd8_known : Known Try.prog hint 36 (rd8P rowB rdPk rdK rdFa rdFc) := rd8_eq ▸ rd_known
theorem rd2_known : Known Try.prog hint 31 (rd2P rowB rdPk rdFa rdFc) := by
  refine known_alt fits fun us T v T1 h => ?_
  unfold rd2P at h
  split at h
  case h_2 => cases h
  rename_i nl cl z l
  simp only [List.mem_cons, List.not_mem_nil, or_false, Prod.mk.injEq, Bool.true_eq] at h
  obtain ⟨h1, rfl, rfl⟩ := h
  refine ⟨[[.fsl nl cl z l]], by simp, Splits.self _, fun ys hy => ?_⟩
  rw [List.mem_singleton] at hy
  subst hy
  exact ⟨noGd_of rfl, tab [(36, rd8P rowB rdPk rdK rdFa rdFc)], fun _ _ => none, tab_cons rd8_known tab_nil, loops_none, 30, _, Wk.refl _, (rd2_all rowB rdPk rdK rdFa rdFc nl cl z l).trans (bif_step h1 rfl)⟩

/-! ### Its fields are fields -/
theorem cutV_len (l : List IV) : (cutV l).length ≤ l.length := by unfold cutV; simp only [List.length_take, List.length_drop]; omega
theorem cutR_len (l : List IV) : (cutR l).length ≤ l.length := by unfold cutR; simp only [List.length_drop]; omega
theorem cutV_ok {l : List IV} (h : okB l = true) : okB (cutV l) = true := okB_take (okB_drop h _) _
theorem cutR_ok {l : List IV} (h : okB l = true) : okB (cutR l) = true := okB_drop (okB_drop h _) _
theorem valR_ok {l : List IV} (h : okB l = true) : okB (valR l) = true ∧ (valR l).length ≤ l.length := by
  unfold valR
  cases badR l
  · cases cutOK (l.drop 16)
    · exact ⟨rfl, Nat.zero_le _⟩
    · exact ⟨cutV_ok (okB_drop h _), Nat.le_trans (cutV_len _) (by simp)⟩
  · exact ⟨rfl, Nat.zero_le _⟩
theorem sigR_ok {l : List IV} (h : okB l = true) : okB (sigR l) = true ∧ (sigR l).length ≤ l.length := by
  unfold sigR
  cases badR l
  · cases cutOK (l.drop 16) && cutOK (cutR (l.drop 16))
    · exact ⟨rfl, Nat.zero_le _⟩
    · exact ⟨cutV_ok (cutR_ok (okB_drop h _)), Nat.le_trans (cutV_len _) (Nat.le_trans (cutR_len _) (by simp))⟩
  · exact ⟨rfl, Nat.zero_le _⟩
theorem xR_ok {l : List IV} (h : okB l = true) (hl : l.length ≤ 100000) : (xR l).ok = true := by
  obtain ⟨h1, h2⟩ := valR_ok h
  obtain ⟨h3, h4⟩ := sigR_ok h
  refine ok_iff.2 ⟨⟨.inl rfl, .inl rfl, ?_, ?_⟩, h1, h3⟩
  · show (valR l).length ≤ _; omega
  · show (sigR l).length ≤ _; omega
theorem rdL_isX {l : List IV} (ho : okB l = true) (hl : l.length ≤ 100000) : ∀ (f k : Nat) (es : List IV), es.all isX = true → (rdL l f k es).2.2.all isX = true
  | 0, k, es, h => h
  | f + 1, k, es, h => by
    unfold rdL
    cases decide (l.length ≤ k + 20)
    · cases badK l k es
      · refine rdL_isX ho hl f _ _ ?_
        rw [List.all_append, h]
        have : okB (fldR l k) = true := okB_take (okB_drop ho _) _
        have h2 : (fldR l k).length ≤ 100000 := by unfold fldR; simp only [List.length_take, List.length_drop]; omega
        show (isX (xR (fldR l k)).iv && true) = true
        rw [isX_iv, xR_ok this h2]
        rfl
      · exact h
    · exact h
theorem rdL_les {l : List IV} : ∀ (f k : Nat) (es : List IV), (rdL l f k es).2.2.length ≤ es.length + f
  | 0, k, es => Nat.le_refl _
  | f + 1, k, es => by
    unfold rdL
    cases decide (l.length ≤ k + 20)
    · cases badK l k es
      · have := rdL_les (l := l) f (k + lnN l k) (es ++ [(xR (fldR l k)).iv])
        rw [List.length_append] at this
        simp only [List.length_cons, List.length_nil, cond_false] at this ⊢
        omega
      · simp
    · simp
theorem rdPk_es {l : List IV} (ho : okB l = true) (hl : l.length ≤ 100000) : (rdPk l).es.all isX = true ∧ (rdPk l).es.length ≤ 9 := by
  unfold rdPk
  cases rdA l
  · refine ⟨rdL_isX ho hl 9 48 [] rfl, ?_⟩
    have := rdL_les (l := l) 9 48 []
    rw [List.length_nil, Nat.zero_add] at this
    exact this
  · exact ⟨rfl, Nat.zero_le _⟩

/-! ### Whether a packet steals -/
abbrev tabS : FuncId → Option SpecF := tab [(31, rd2P rowB rdPk rdFa rdFc)]
abbrev NS : Nat → CallF := acall Try.prog hint (ovrOf tabS)
def stX (x : List IV) (kn : Bool) (v : XV) : Bool := bif v.a == (4 : Int) then !(bif kn then toBytes v.l1 == toBytes x else false) else false
def stB' (x : List IV) (kn : Bool) (vs : List XV) : Bool := vs.any (stX x kn)
def gS (b x : List IV) (kn : Bool) : Bool := bif rdFc b != (0 : Int) then false else stB' x kn (rdPk b).xs
def cS (z : Nat) (b : List IV) (z' : Nat) (x : List IV) : Bool := rowB z b && (decide (z' = 1 ∨ x.length = 0) && isBytes x)
def stStep (kn : Bool) (nl : Option Bool) (cl : Bool) (z : Nat) (x es : List IV) (i : Nat) (_ : Unit) (v : XV) : Unit ⊕ (Ex × St) :=
  if stX x kn v then .inr (.ret, Sx 37 (stV es (i : Int) (i : Int)) (stB kn nl cl z x)) else .inl ()
theorem st_fold (kn : Bool) (nl : Option Bool) (cl : Bool) (z : Nat) (x es : List IV) : ∀ (vs : List XV) (i : Nat), (stB' x kn vs = false ∧ foldE (stStep kn nl cl z x es) i () vs = .inl ()) ∨ (stB' x kn vs = true ∧ ∃ j : Nat, foldE (stStep kn nl cl z x es) i () vs = .inr (.ret, Sx 37 (stV es (j : Int) (j : Int)) (stB kn nl cl z x)))
  | [], i => .inl ⟨rfl, rfl⟩
  | v :: vs, i => by
    have ih := st_fold kn nl cl z x es vs (i + 1)
    unfold foldE
    have e0 : stB' x kn (v :: vs) = (stX x kn v || stB' x kn vs) := rfl
    rw [e0]
    cases h : stX x kn v
    · have e1 : stStep kn nl cl z x es i () v = .inl () := by unfold stStep; rw [h]; rfl
      rw [e1, Bool.false_or]
      exact ih
    · have e1 : stStep kn nl cl z x es i () v = .inr (.ret, Sx 37 (stV es (i : Int) (i : Int)) (stB kn nl cl z x)) := by unfold stStep; rw [h]; rfl
      rw [e1]
      exact .inr ⟨rfl, i, rfl⟩
theorem st_runs {kn : Bool} {nl : Option Bool} {cl : Bool} {z : Nat} {x : List IV} {vs : List XV} (hv : ∀ v ∈ vs, v.ok = true) (hl : vs.length ≤ 1000) (hz : z = 1 ∨ x.length = 0) (hx : isBytes x = true) :
    EachOK Try.prog hint NS 2 (hint.kp 37) (loopAt Try.prog 37 26) (Sx 37 (stV (vs.map XV.iv) 0 ((0 : Nat) : Int)) (stB kn nl cl z x)) (.exit 0)
      (fun _ : Unit => Sx 37 (stV (vs.map XV.iv) 0 (vs.length : Int)) (stB kn nl cl z x)) (foldE (stStep kn nl cl z x (vs.map XV.iv)) 0 () vs) := by
  refine runs_each (X := Unit) (l := vs) (n := 30) (ls := fun _ _ => none) loops_none inner0 (fun i _ => Sx 37 (stV (vs.map XV.iv) 0 (i : Int)) (stB kn nl cl z x)) _
    (fun _ _ => True) (by simp) ?_ ?_ vs.length 0 () (by omega) trivial
  · intro i u hi _
    have ht := st_in rowB rdPk rdFa rdFc (vs.map XV.iv) i kn nl cl z x
    have hok := hv _ (List.getElem_mem hi)
    rw [show nthD (vs.map XV.iv) ((i : Int)).toNat = vs[i].iv by rw [Int.toNat_natCast, nthD_mapf]] at ht
    generalize hvi : vs[i] = v at *
    obtain ⟨⟨q1, q2, q3, q4⟩, q5, q6⟩ := ok_iff.1 hok
    rw [x6, x0, intOf_int', szOf_f, rowL_f, xt, wadd1 (by omega)] at ht
    replace ht := fun r k => ht.trans (bif_step (r := r) (decide_eq_true (by rw [List.length_map]; omega)) (bif_step (decide_eq_true ⟨rfl, by omega, by rw [List.length_map]; omega⟩) (bif_step rfl (bif_step (by rw [decide_eq_true q1, isBytes_ok q5]; rfl) (bif_step (by rw [decide_eq_true hz, hx]; rfl) k)))))
    unfold stStep
    cases h : stX x kn v
    · exact .inl ⟨(), if_neg (by simp), ht _ (bif_stepF h rfl), trivial⟩
    · exact .inr ⟨_, _, if_pos rfl, by simp, ht _ (bif_step h rfl)⟩
  · intro _ _
    have ht := st_in rowB rdPk rdFa rdFc (vs.map XV.iv) vs.length kn nl cl z x
    exact ht.trans (bif_stepF (decide_eq_false (by rw [List.length_map]; omega)) rfl)
theorem st_known : Known Try.prog hint 26 (stP cS gS) := by
  refine known_alt fits fun us T v T1 h => ?_
  unfold stP at h
  split at h
  case h_2 => cases h
  rename_i k hh p a nl cl z b nl' cl' z' x kn
  simp only [List.mem_cons, List.not_mem_nil, or_false, Prod.mk.injEq, Bool.true_eq] at h
  obtain ⟨h1, rfl, rfl⟩ := h
  unfold cS at h1
  simp only [Bool.and_eq_true, decide_eq_true_eq] at h1
  obtain ⟨hb, hz, hx⟩ := h1
  have hb' := hb
  unfold rowB at hb
  simp only [Bool.and_eq_true, decide_eq_true_eq] at hb
  obtain ⟨⟨rfl, hbl⟩, hbo⟩ := hb
  obtain ⟨he, hel⟩ := rdPk_es hbo hbl
  obtain ⟨e1, e2⟩ := xs_eq he
  refine ⟨[[.agg [.int .i64 k, .int .u32 hh, .int .u32 p, .int .i64 a, .fsl nl cl 1 b], .fsl nl' cl' z' x, .bool kn]], by simp, Splits.self _, fun ys hy => ?_⟩
  rw [List.mem_singleton] at hy
  subst hy
  have hxl : (xsOf (rdPk b).es).length ≤ 1000 := by unfold xsOf; rw [List.length_map]; omega
  have q := st_runs (kn := kn) (nl := nl') (cl := cl') e2 hxl hz hx
  rw [← e1] at q
  have hlen : (xsOf (rdPk b).es).length = (rdPk b).es.length := by unfold xsOf; rw [List.length_map]
  rw [hlen] at q
  rcases st_fold kn nl' cl' z' x (rdPk b).es (xsOf (rdPk b).es) 0 with ⟨hv, hf⟩ | ⟨hv, j, hf⟩
  · rw [hf] at q
    have hls : LoopsOK Try.prog hint NS (ltab [(37, 26, LF 37 2 (oneF (stV (rdPk b).es 0 0) (stB kn nl' cl' z' x) (.exit 0) (stV (rdPk b).es 0 ((rdPk b).es.length : Int)) (stB kn nl' cl' z' x)))]) := by
      refine ltab_cons (by kernel_rfl) (loopF_ok fun vs bx e vs' bx' hm => ?_) ltab_nil
      obtain ⟨rfl, rfl, rfl, rfl, rfl⟩ := oneF_mem hm
      exact q
    refine ⟨noGd_of rfl, tabS, _, tab_cons rd2_known tab_nil, hls, 30, _, Wk.refl _, (st_no rowB rdPk rdFa rdFc k hh p a nl nl' cl cl' b x z' kn).trans (bif_step hb' ?_)⟩
    have e0 : gS b x kn = bif rdFc b != (0 : Int) then false else stB' x kn (rdPk b).xs := rfl
    rw [e0, show (rdPk b).xs = xsOf (rdPk b).es from rfl, hv]
    cases rdFc b != (0 : Int)
    · exact bif_stepF rfl (bif_step sameS_t rfl)
    · exact bif_step rfl rfl
  · rw [hf] at q
    have hls : LoopsOK Try.prog hint NS (ltab [(37, 26, LF 37 2 (oneF (stV (rdPk b).es 0 0) (stB kn nl' cl' z' x) .ret (stV (rdPk b).es (j : Int) (j : Int)) (stB kn nl' cl' z' x)))]) := by
      refine ltab_cons (by kernel_rfl) (loopF_ok fun vs bx e vs' bx' hm => ?_) ltab_nil
      obtain ⟨rfl, rfl, rfl, rfl, rfl⟩ := oneF_mem hm
      exact q
    refine ⟨noGd_of rfl, tabS, _, tab_cons rd2_known tab_nil, hls, 30, _, Wk.refl _, (st_yes rowB rdPk rdFa rdFc k hh p a (j : Int) nl nl' cl cl' b x z' kn).trans (bif_step hb' ?_)⟩
    have e0 : gS b x kn = bif rdFc b != (0 : Int) then false else stB' x kn (rdPk b).xs := rfl
    rw [e0, show (rdPk b).xs = xsOf (rdPk b).es from rfl, hv]
    cases rdFc b != (0 : Int)
    · refine bif_stepF rfl (bif_step sameS_t ?_)
      rw [decide_eq_true (show (j : Int) ≥ 0 by omega)]
      rfl
    · exact bif_step rfl rfl
end
end Go.Proofs.Ytgbddcdpbgaojaa
/- Thefts: what is proved of the given program. It bears no condition. -/
namespace Go.Proofs.Ytgbddcdpbgaojaa
open Go Go.Im
set_option linter.unusedVariables false
set_option linter.unusedSimpArgs false
set_option maxRecDepth 20000
noncomputable section

/-! ### Faces -/
/-- A host's address, and the text of its key. -/
abbrev Fc := Int × List UInt8
def fcF (f : Fc) : IV := .agg [.int .u32 f.1, .fsl none false 1 (u8s f.2)]
def isFc (x : IV) : Bool := match x with
  | .agg [.int .u32 _, .fsl _ _ 1 bs] => okB bs && decide (bs.length ≤ 140737488351232)
  | _ => false
def fcOf (x : IV) : Fc := match x with
  | .agg [.int .u32 a, .fsl _ _ 1 bs] => (a, toBytes bs)
  | _ => (0, [])
theorem isFc_iff {x : IV} (hx : isFc x = true) : ∃ nl cl, x = .agg [.int .u32 (fcOf x).1, .fsl nl cl 1 (u8s (fcOf x).2)] ∧ (fcOf x).2.length ≤ 140737488351232 := by
  unfold isFc at hx
  split at hx
  · rename_i a nl cl bs
    simp only [Bool.and_eq_true, decide_eq_true_eq] at hx
    have e := okB_eq hx.1
    refine ⟨nl, cl, ?_, ?_⟩
    · simp only [fcOf]
      rw [← e]
    · simp only [fcOf]
      have := hx.2
      rw [e, u8s_len] at this
      exact this
  · cases hx
abbrev fcs (l : List IV) : List Fc := l.map fcOf
theorem fcOf_agg (f : Fc) (nl : Option Bool) (cl : Bool) : fcOf (.agg [.int .u32 f.1, .fsl nl cl 1 (u8s f.2)]) = f := by
  unfold fcOf
  simp only [toBytes_u8s]
theorem fcs_F (l : List Fc) : fcs (l.map fcF) = l := by
  unfold fcs
  rw [List.map_map]
  exact (List.map_congr_left fun f _ => fcOf_agg f none false).trans (List.map_id l)
theorem isFc_of {f : Fc} (h : f.2.length ≤ 140737488351232) (nl : Option Bool) (cl : Bool) : isFc (.agg [.int .u32 f.1, .fsl nl cl 1 (u8s f.2)]) = true := by
  unfold isFc
  simp only [Bool.and_eq_true, decide_eq_true_eq]
  exact ⟨okB_u8s _, by rw [u8s_len]; exact h⟩

/-! ### Plain -/
theorem foldE_find {α R : Type} (f : α → Bool) (g : Nat → R) : ∀ (xs : List α) (i : Nat), foldE (fun i (_ : Unit) x => if f x = true then .inr (g i) else .inl ()) i () xs = match xs.findIdx? f with | none => .inl () | some j => .inr (g (j + i))
  | [], i => rfl
  | x :: xs, i => by
    unfold foldE
    rw [List.findIdx?_cons]
    cases h : f x
    · have ih := foldE_find f g xs (i + 1)
      simp only [Bool.false_eq_true, if_false]
      rw [ih]
      cases xs.findIdx? f with
      | none => rfl
      | some j => show Sum.inr (g (j + (i + 1))) = Sum.inr (g (j + 1 + i)); rw [Nat.add_assoc, Nat.add_comm i 1]
    · simp
/-- Is it the theft of a cookie of an event's host, by what its face's text is? -/
def stolen (t : Ev) (x : List IV) (kn : Bool) (e : Ev) : Bool :=
  bif (bif bif e.kind == (2 : Int) then e.host == t.peer else false then e.peer == t.host else false) == true then gS (u8s e.bytes) x kn else false
def faceIx (h : Int) (fs : List Fc) : Option Nat := fs.findIdx? fun f => f.1 == h
def faceTx (h : Int) (fs : List Fc) : Option (List UInt8) := (fs.find? fun f => f.1 == h).map (·.2)
def theft (es : List Ev) (told : Int) (fs : List Fc) : Int × Int :=
  if told < 0 ∨ told ≥ es.length then (0, 1) else match es[told.toNat]? with
    | none => (0, 1)
    | some t => if t.kind ≠ 3 then (0, 1) else
      match (es.take told.toNat).findIdx? (stolen t (u8s ((faceTx t.host fs).getD [])) (faceTx t.host fs).isSome) with
      | none => (0, 4)
      | some k => ((k : Int), 0)
theorem find_ix (h : Int) (fs : List Fc) : match faceIx h fs with
    | none => faceTx h fs = none
    | some j => ∃ hj : j < fs.length, faceTx h fs = some fs[j].2 := by
  unfold faceIx faceTx
  cases e : fs.findIdx? (fun f => f.1 == h) with
  | none =>
    have := List.findIdx?_eq_none_iff.1 e
    show (fs.find? _).map _ = none
    rw [List.find?_eq_none.2 (fun x hx => by simp only [this x hx]; simp)]
    rfl
  | some j =>
    obtain ⟨hj, h1, h2⟩ := List.findIdx?_eq_some_iff_getElem.1 e
    refine ⟨hj, ?_⟩
    have : fs.find? (fun f => f.1 == h) = some fs[j] := List.find?_eq_some_iff_getElem.2 ⟨h1, j, hj, rfl, fun k hk => by simpa using h2 k hk⟩
    rw [this]
    rfl

/-! ### Rounds -/
abbrev tabT4 : FuncId → Option SpecF := tab [(26, stP cS gS)]
theorem tabT4_ok : ∀ f F, tabT4 f = some F → Known Try.prog hint f F := tab_cons st_known tab_nil
abbrev NT : Nat → CallF := acall Try.prog hint (ovrOf tabT4)
theorem io32 (x : Int) (y : List IV) : Im.intOf (nthD (IV.agg (.int .u32 x :: y)).cells 0) = x := Eq.trans rfl rfl
theorem ix_runs {fs : List IV} (hf : fs.all isFc = true) (hl : fs.length ≤ 1000) {k h p a : Int} {nl : Option Bool} {cl : Bool} {z : Nat} {b : List IV} :
    EachOK Try.prog hint NT 1 (hint.kp 24) (loopAt Try.prog 24 26) (Sx 24 (ixV fs 0 ((0 : Nat) : Int)) [.var false [.int .i64 k, .int .u32 h, .int .u32 p, .int .i64 a, .fsl nl cl z b]]) (.exit 0)
      (fun _ : Unit => Sx 24 (ixV fs 0 (fs.length : Int)) [.var false [.int .i64 k, .int .u32 h, .int .u32 p, .int .i64 a, .fsl nl cl z b]])
      (match faceIx h (fcs fs) with | none => .inl () | some j => .inr (.ret, Sx 24 (ixV fs (j : Int) (j : Int)) [.var false [.int .i64 k, .int .u32 h, .int .u32 p, .int .i64 a, .fsl nl cl z b]])) := by
  have hfe := foldE_find (fun f : Fc => f.1 == h) (fun j => (Ex.ret, Sx 24 (ixV fs (j : Int) (j : Int)) [.var false [.int .i64 k, .int .u32 h, .int .u32 p, .int .i64 a, .fsl nl cl z b]])) (fcs fs) 0
  simp only [Nat.add_zero] at hfe
  unfold faceIx
  rw [← hfe]
  have hlen : (fcs fs).length = fs.length := List.length_map ..
  refine runs_each (X := Unit) (l := fcs fs) (n := 30) (ls := fun _ _ => none) loops_none inner0 (fun i _ => Sx 24 (ixV fs 0 (i : Int)) [.var false [.int .i64 k, .int .u32 h, .int .u32 p, .int .i64 a, .fsl nl cl z b]]) _
    (fun _ _ => True) (by simp) ?_ ?_ (fcs fs).length 0 () (by omega) trivial
  · intro i u hi _
    rw [hlen] at hi
    obtain ⟨ni, ci, hxi, _⟩ := isFc_iff (List.all_eq_true.1 hf _ (List.getElem_mem hi))
    have hei : (fcs fs)[i]'(by rw [hlen]; exact hi) = fcOf fs[i] := by simp [fcs]
    have hNi := nthD_at hi
    rw [hxi] at hNi
    rw [hei]
    generalize fcOf fs[i] = e at *
    have ht := ix_in cS gS k h p a nl cl z b fs i
    rw [hNi, io32, wadd1 (by omega)] at ht
    replace ht := fun r q => ht.trans (bif_step (r := r) (decide_eq_true (by omega)) (bif_step (decide_eq_true ⟨rfl, by omega, by omega⟩) (bif_step rfl q)))
    cases hq : e.1 == h
    · exact .inl ⟨(), if_neg (by simp), ht _ (bif_stepF hq rfl), trivial⟩
    · exact .inr ⟨_, _, if_pos rfl, by simp, ht _ (bif_step hq rfl)⟩
  · intro _ _
    rw [hlen]
    have ht := ix_in cS gS k h p a nl cl z b fs fs.length
    exact ht.trans (bif_stepF (decide_eq_false (by omega)) rfl)
/-- An event's bytes are not too many. -/
def shortE (e : Ev) : Bool := decide (e.bytes.length ≤ 100000)
theorem th_runs {l : List IV} (ha : l.all isEv = true) (hl : l.length ≤ 1000) (hs : (evs l).all shortE = true) {t : Ev} {nl nl' : Option Bool} {cl cl' : Bool} {z z' : Nat} {b x : List IV} (hx : (decide (z' = 1 ∨ x.length = 0) && isBytes x) = true) {ix : Int} :
    EachOK Try.prog hint NT 0 (hint.kp 14) (loopAt Try.prog 14 1018) (Sx 14 (thV 0 0 (.fsl nl' cl' z' x) ix l ((0 : Nat) : Int)) [.var false [.int .i64 t.kind, .int .u32 t.host, .int .u32 t.peer, .int .i64 t.at_, .fsl nl cl z b]]) (.exit 0)
      (fun _ : Unit => Sx 14 (thV 0 0 (.fsl nl' cl' z' x) ix l (l.length : Int)) [.var false [.int .i64 t.kind, .int .u32 t.host, .int .u32 t.peer, .int .i64 t.at_, .fsl nl cl z b]])
      (match (evs l).findIdx? (stolen t x (decide (ix ≥ 0))) with | none => .inl () | some j => .inr (.ret, Sx 14 (thV (j : Int) 0 (.fsl nl' cl' z' x) ix l (j : Int)) [.var false [.int .i64 t.kind, .int .u32 t.host, .int .u32 t.peer, .int .i64 t.at_, .fsl nl cl z b]])) := by
  have hfe := foldE_find (stolen t x (decide (ix ≥ 0))) (fun j => (Ex.ret, Sx 14 (thV (j : Int) 0 (.fsl nl' cl' z' x) ix l (j : Int)) [.var false [.int .i64 t.kind, .int .u32 t.host, .int .u32 t.peer, .int .i64 t.at_, .fsl nl cl z b]])) (evs l) 0
  simp only [Nat.add_zero] at hfe
  rw [← hfe]
  have hlen : (evs l).length = l.length := List.length_map ..
  refine runs_each (X := Unit) (l := evs l) (n := 30) (ls := fun _ _ => none) loops_none inner0 (fun i _ => Sx 14 (thV 0 0 (.fsl nl' cl' z' x) ix l (i : Int)) [.var false [.int .i64 t.kind, .int .u32 t.host, .int .u32 t.peer, .int .i64 t.at_, .fsl nl cl z b]]) _
    (fun _ _ => True) (by simp) ?_ ?_ (evs l).length 0 () (by omega) trivial
  · intro i u hi _
    rw [hlen] at hi
    obtain ⟨ni, ci, hxi, _⟩ := isEv_iff (List.all_eq_true.1 ha _ (List.getElem_mem hi))
    have hei : (evs l)[i]'(by rw [hlen]; exact hi) = evOf l[i] := by simp [evs]
    have hsi : shortE (evOf l[i]) = true := List.all_eq_true.1 hs _ (by rw [← hei]; exact List.getElem_mem _)
    have hNi := nthD_at hi
    rw [hxi] at hNi
    rw [hei]
    generalize evOf l[i] = e at *
    have ht := th_in cS gS t.kind t.host t.peer t.at_ nl cl z b nl' cl' z' x ix i l
    rw [hNi] at ht
    have q0 : Im.intOf (nthD (IV.agg [.int .i64 e.kind, .int .u32 e.host, .int .u32 e.peer, .int .i64 e.at_, .fsl ni ci 1 (u8s e.bytes)]).cells 0) = e.kind := Eq.trans rfl rfl
    have q1 : Im.intOf (nthD (IV.agg [.int .i64 e.kind, .int .u32 e.host, .int .u32 e.peer, .int .i64 e.at_, .fsl ni ci 1 (u8s e.bytes)]).cells 1) = e.host := Eq.trans rfl rfl
    have q2 : Im.intOf (nthD (IV.agg [.int .i64 e.kind, .int .u32 e.host, .int .u32 e.peer, .int .i64 e.at_, .fsl ni ci 1 (u8s e.bytes)]).cells 2) = e.peer := Eq.trans rfl rfl
    have q3 : Im.szOf (nthD (IV.agg [.int .i64 e.kind, .int .u32 e.host, .int .u32 e.peer, .int .i64 e.at_, .fsl ni ci 1 (u8s e.bytes)]).cells 4) = 1 := Eq.trans rfl rfl
    have q4 : Im.rowL (nthD (IV.agg [.int .i64 e.kind, .int .u32 e.host, .int .u32 e.peer, .int .i64 e.at_, .fsl ni ci 1 (u8s e.bytes)]).cells 4) = u8s e.bytes := Eq.trans rfl rfl
    rw [q0, q1, q2, q3, q4, wadd1 (by omega)] at ht
    replace ht := fun r q => ht.trans (bif_step (r := r) (decide_eq_true (by omega)) (bif_step (decide_eq_true ⟨rfl, by omega, by omega⟩) (bif_step rfl q)))
    have hc : cS 1 (u8s e.bytes) z' x = true := by
      unfold cS rowB
      have : e.bytes.length ≤ 100000 := of_decide_eq_true hsi
      rw [hx, okB_u8s, decide_eq_true (⟨rfl, by rw [u8s_len]; exact this⟩ : (1 : Nat) = 1 ∧ (u8s e.bytes).length ≤ 100000)]; rfl
    have hst : stolen t x (decide (ix ≥ 0)) e = bif (bif bif e.kind == (2 : Int) then e.host == t.peer else false then e.peer == t.host else false) == true then gS (u8s e.bytes) x (decide (ix ≥ 0)) else false := rfl
    cases hq : (bif bif e.kind == (2 : Int) then e.host == t.peer else false then e.peer == t.host else false) == true
    · have h0 : stolen t x (decide (ix ≥ 0)) e = false := by rw [hst, hq]; rfl
      exact .inl ⟨(), if_neg (by rw [h0]; simp), ht _ (bif_stepF hq rfl), trivial⟩
    · cases hg : gS (u8s e.bytes) x (decide (ix ≥ 0))
      · have h0 : stolen t x (decide (ix ≥ 0)) e = false := by rw [hst, hq, hg]; rfl
        exact .inl ⟨(), if_neg (by rw [h0]; simp), ht _ (bif_step hq (bif_step hc (bif_stepF hg rfl))), trivial⟩
      · have h0 : stolen t x (decide (ix ≥ 0)) e = true := by rw [hst, hq, hg]; rfl
        exact .inr ⟨_, _, if_pos h0, by simp, ht _ (bif_step hq (bif_step hc (bif_step hg rfl)))⟩
  · intro _ _
    rw [hlen]
    have ht := th_in cS gS t.kind t.host t.peer t.at_ nl cl z b nl' cl' z' x ix l.length l
    exact ht.trans (bif_stepF (decide_eq_false (by omega)) rfl)
end
end Go.Proofs.Ytgbddcdpbgaojaa
