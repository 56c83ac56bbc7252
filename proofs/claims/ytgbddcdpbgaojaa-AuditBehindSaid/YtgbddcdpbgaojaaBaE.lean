/- Thefts: what is proved of the given program. It bears no condition. -/
import Derived.Test.YtgbddcdpbgaojaaBaD
namespace Go.Proofs.Ytgbddcdpbgaojaa
open Go Go.Im
set_option linter.unusedVariables false
set_option linter.unusedSimpArgs false
set_option maxRecDepth 20000
noncomputable section

/-! ### Faces -/
/-- A host's address, and the text of its key. -/
abbrev Fc := Int × List UInt8
def fcF (f : Fc) : IV := .agg [.int .u32 f.1, .fsl none false 1 (u8s f.2)]
def isFc (x : IV) : Bool := match x with
  | .agg [.int .u32 _, .fsl _ _ 1 bs] => okB bs && decide (bs.length ≤ 140737488351232)
  | _ => false
def fcOf (x : IV) : Fc := match x with
  | .agg [.int .u32 a, .fsl _ _ 1 bs] => (a, toBytes bs)
  | _ => (0, [])
theorem isFc_iff {x : IV} (hx : isFc x = true) : ∃ nl cl, x = .agg [.int .u32 (fcOf x).1, .fsl nl cl 1 (u8s (fcOf x).2)] ∧ (fcOf x).2.length ≤ 140737488351232 := by
  unfold isFc at hx
  split at hx
  · rename_i a nl cl bs
    simp only [Bool.and_eq_true, decide_eq_true_eq] at hx
    have e := okB_eq hx.1
    refine ⟨nl, cl, ?_, ?_⟩
    · simp only [fcOf]
      rw [← e]
    · simp only [fcOf]
      have := hx.2
      rw [e, u8s_len] at this
      exact this
  · cases hx
abbrev fcs (l : List IV) : List Fc := l.map fcOf
theorem fcOf_agg (f : Fc) (nl : Option Bool) (cl : Bool) : fcOf (.agg [.int .u32 f.1, .fsl nl cl 1 (u8s f.2)]) = f := by
  unfold fcOf
  simp only [toBytes_u8s]
theorem fcs_F (l : List Fc) : fcs (l.map fcF) = l := by
  unfold fcs
  rw [List.map_map]
  exact (List.map_congr_left fun f _ => fcOf_agg f none false).trans (List.map_id l)
theorem isFc_of {f : Fc} (h : f.2.length ≤ 140737488351232) (nl : Option Bool) (cl : Bool) : isFc (.agg [.int .u32 f.1, .fsl nl cl 1 (u8s f.2)]) = true := by
  unfold isFc
  simp only [Bool.and_eq_true, decide_eq_true_eq]
  exact ⟨okB_u8s _, by rw [u8s_len]; exact h⟩

/-! ### Plain -/
theorem foldE_find {α R : Type} (f : α → Bool) (g : Nat → R) : ∀ (xs : List α) (i : Nat), foldE (fun i (_ : Unit) x => if f x = true then .inr (g i) else .inl ()) i () xs = match xs.findIdx? f with | none => .inl () | some j => .inr (g (j + i))
  | [], i => rfl
  | x :: xs, i => by
    unfold foldE
    rw [List.findIdx?_cons]
    cases h : f x
    · have ih := foldE_find f g xs (i + 1)
      simp only [Bool.false_eq_true, if_false]
      rw [ih]
      cases xs.findIdx? f with
      | none => rfl
      | some j => show Sum.inr (g (j + (i + 1))) = Sum.inr (g (j + 1 + i)); rw [Nat.add_assoc, Nat.add_comm i 1]
    · simp
/-- Is it the theft of a cookie of an event's host, by what its face's text is? -/
def stolen (t : Ev) (x : List IV) (kn : Bool) (e : Ev) : Bool :=
  bif (bif bif e.kind == (2 : Int) then e.host == t.peer else false then e.peer == t.host else false) == true then gS (u8s e.bytes) x kn else false
def faceIx (h : Int) (fs : List Fc) : Option Nat := fs.findIdx? fun f => f.1 == h
def faceTx (h : Int) (fs : List Fc) : Option (List UInt8) := (fs.find? fun f => f.1 == h).map (·.2)
def theft (es : List Ev) (told : Int) (fs : List Fc) : Int × Int :=
  if told < 0 ∨ told ≥ es.length then (0, 1) else match es[told.toNat]? with
    | none => (0, 1)
    | some t => if t.kind ≠ 3 then (0, 1) else
      match (es.take told.toNat).findIdx? (stolen t (u8s ((faceTx t.host fs).getD [])) (faceTx t.host fs).isSome) with
      | none => (0, 4)
      | some k => ((k : Int), 0)
theorem find_ix (h : Int) (fs : List Fc) : match faceIx h fs with
    | none => faceTx h fs = none
    | some j => ∃ hj : j < fs.length, faceTx h fs = some fs[j].2 := by
  unfold faceIx faceTx
  cases e : fs.findIdx? (fun f => f.1 == h) with
  | none =>
    have := List.findIdx?_eq_none_iff.1 e
    show (fs.find? _).map _ = none
    rw [List.find?_eq_none.2 (fun x hx => by simp only [this x hx]; simp)]
    rfl
  | some j =>
    obtain ⟨hj, h1, h2⟩ := List.findIdx?_eq_some_iff_getElem.1 e
    refine ⟨hj, ?_⟩
    have : fs.find? (fun f => f.1 == h) = some fs[j] := List.find?_eq_some_iff_getElem.2 ⟨h1, j, hj, rfl, fun k hk => by simpa using h2 k hk⟩
    rw [this]
    rfl

/-! ### Rounds -/
abbrev tabT4 : FuncId → Option SpecF := tab [(26, stP cS gS)]
theorem tabT4_ok : ∀ f F, tabT4 f = some F → Known Try.prog hint f F := tab_cons st_known tab_nil
abbrev NT : Nat → CallF := acall Try.prog hint (ovrOf tabT4)
theorem io32 (x : Int) (y : List IV) : Im.intOf (nthD (IV.agg (.int .u32 x :: y)).cells 0) = x := Eq.trans rfl rfl
theorem ix_runs {fs : List IV} (hf : fs.all isFc = true) (hl : fs.length ≤ 1000) {k h p a : Int} {nl : Option Bool} {cl : Bool} {z : Nat} {b : List IV} :
    EachOK Try.prog hint NT 1 (hint.kp 24) (loopAt Try.prog 24 26) (Sx 24 (ixV fs 0 ((0 : Nat) : Int)) [.var false [.int .i64 k, .int .u32 h, .int .u32 p, .int .i64 a, .fsl nl cl z b]]) (.exit 0)
      (fun _ : Unit => Sx 24 (ixV fs 0 (fs.length : Int)) [.var false [.int .i64 k, .int .u32 h, .int .u32 p, .int .i64 a, .fsl nl cl z b]])
      (match faceIx h (fcs fs) with | none => .inl () | some j => .inr (.ret, Sx 24 (ixV fs (j : Int) (j : Int)) [.var false [.int .i64 k, .int .u32 h, .int .u32 p, .int .i64 a, .fsl nl cl z b]])) := by
  have hfe := foldE_find (fun f : Fc => f.1 == h) (fun j => (Ex.ret, Sx 24 (ixV fs (j : Int) (j : Int)) [.var false [.int .i64 k, .int .u32 h, .int .u32 p, .int .i64 a, .fsl nl cl z b]])) (fcs fs) 0
  simp only [Nat.add_zero] at hfe
  unfold faceIx
  rw [← hfe]
  have hlen : (fcs fs).length = fs.length := List.length_map ..
  refine runs_each (X := Unit) (l := fcs fs) (n := 30) (ls := fun _ _ => none) loops_none inner0 (fun i _ => Sx 24 (ixV fs 0 (i : Int)) [.var false [.int .i64 k, .int .u32 h, .int .u32 p, .int .i64 a, .fsl nl cl z b]]) _
    (fun _ _ => True) (by simp) ?_ ?_ (fcs fs).length 0 () (by omega) trivial
  · intro i u hi _
    rw [hlen] at hi
    obtain ⟨ni, ci, hxi, _⟩ := isFc_iff (List.all_eq_true.1 hf _ (List.getElem_mem hi))
    have hei : (fcs fs)[i]'(by rw [hlen]; exact hi) = fcOf fs[i] := by simp [fcs]
    have hNi := nthD_at hi
    rw [hxi] at hNi
    rw [hei]
    generalize fcOf fs[i] = e at *
    have ht := ix_in cS gS k h p a nl cl z b fs i
    rw [hNi, io32, wadd1 (by omega)] at ht
    replace ht := fun r q => ht.trans (bif_step (r := r) (decide_eq_true (by omega)) (bif_step (decide_eq_true ⟨rfl, by omega, by omega⟩) (bif_step rfl q)))
    cases hq : e.1 == h
    · exact .inl ⟨(), if_neg (by simp), ht _ (bif_stepF hq rfl), trivial⟩
    · exact .inr ⟨_, _, if_pos rfl, by simp, ht _ (bif_step hq rfl)⟩
  · intro _ _
    rw [hlen]
    have ht := ix_in cS gS k h p a nl cl z b fs fs.length
    exact ht.trans (bif_stepF (decide_eq_false (by omega)) rfl)
/-- An event's bytes are not too many. -/
def shortE (e : Ev) : Bool := decide (e.bytes.length ≤ 100000)
theorem th_runs {l : List IV} (ha : l.all isEv = true) (hl : l.length ≤ 1000) (hs : (evs l).all shortE = true) {t : Ev} {nl nl' : Option Bool} {cl cl' : Bool} {z z' : Nat} {b x : List IV} (hx : (decide (z' = 1 ∨ x.length = 0) && isBytes x) = true) {ix : Int} :
    EachOK Try.prog hint NT 0 (hint.kp 14) (loopAt Try.prog 14 1018) (Sx 14 (thV 0 0 (.fsl nl' cl' z' x) ix l ((0 : Nat) : Int)) [.var false [.int .i64 t.kind, .int .u32 t.host, .int .u32 t.peer, .int .i64 t.at_, .fsl nl cl z b]]) (.exit 0)
      (fun _ : Unit => Sx 14 (thV 0 0 (.fsl nl' cl' z' x) ix l (l.length : Int)) [.var false [.int .i64 t.kind, .int .u32 t.host, .int .u32 t.peer, .int .i64 t.at_, .fsl nl cl z b]])
      (match (evs l).findIdx? (stolen t x (decide (ix ≥ 0))) with | none => .inl () | some j => .inr (.ret, Sx 14 (thV (j : Int) 0 (.fsl nl' cl' z' x) ix l (j : Int)) [.var false [.int .i64 t.kind, .int .u32 t.host, .int .u32 t.peer, .int .i64 t.at_, .fsl nl cl z b]])) := by
  have hfe := foldE_find (stolen t x (decide (ix ≥ 0))) (fun j => (Ex.ret, Sx 14 (thV (j : Int) 0 (.fsl nl' cl' z' x) ix l (j : Int)) [.var false [.int .i64 t.kind, .int .u32 t.host, .int .u32 t.peer, .int .i64 t.at_, .fsl nl cl z b]])) (evs l) 0
  simp only [Nat.add_zero] at hfe
  rw [← hfe]
  have hlen : (evs l).length = l.length := List.length_map ..
  refine runs_each (X := Unit) (l := evs l) (n := 30) (ls := fun _ _ => none) loops_none inner0 (fun i _ => Sx 14 (thV 0 0 (.fsl nl' cl' z' x) ix l (i : Int)) [.var false [.int .i64 t.kind, .int .u32 t.host, .int .u32 t.peer, .int .i64 t.at_, .fsl nl cl z b]]) _
    (fun _ _ => True) (by simp) ?_ ?_ (evs l).length 0 () (by omega) trivial
  · intro i u hi _
    rw [hlen] at hi
    obtain ⟨ni, ci, hxi, _⟩ := isEv_iff (List.all_eq_true.1 ha _ (List.getElem_mem hi))
    have hei : (evs l)[i]'(by rw [hlen]; exact hi) = evOf l[i] := by simp [evs]
    have hsi : shortE (evOf l[i]) = true := List.all_eq_true.1 hs _ (by rw [← hei]; exact List.getElem_mem _)
    have hNi := nthD_at hi
    rw [hxi] at hNi
    rw [hei]
    generalize evOf l[i] = e at *
    have ht := th_in cS gS t.kind t.host t.peer t.at_ nl cl z b nl' cl' z' x ix i l
    rw [hNi] at ht
    have q0 : Im.intOf (nthD (IV.agg [.int .i64 e.kind, .int .u32 e.host, .int .u32 e.peer, .int .i64 e.at_, .fsl ni ci 1 (u8s e.bytes)]).cells 0) = e.kind := Eq.trans rfl rfl
    have q1 : Im.intOf (nthD (IV.agg [.int .i64 e.kind, .int .u32 e.host, .int .u32 e.peer, .int .i64 e.at_, .fsl ni ci 1 (u8s e.bytes)]).cells 1) = e.host := Eq.trans rfl rfl
    have q2 : Im.intOf (nthD (IV.agg [.int .i64 e.kind, .int .u32 e.host, .int .u32 e.peer, .int .i64 e.at_, .fsl ni ci 1 (u8s e.bytes)]).cells 2) = e.peer := Eq.trans rfl rfl
    have q3 : Im.szOf (nthD (IV.agg [.int .i64 e.kind, .int .u32 e.host, .int .u32 e.peer, .int .i64 e.at_, .fsl ni ci 1 (u8s e.bytes)]).cells 4) = 1 := Eq.trans rfl rfl
    have q4 : Im.rowL (nthD (IV.agg [.int .i64 e.kind, .int .u32 e.host, .int .u32 e.peer, .int .i64 e.at_, .fsl ni ci 1 (u8s e.bytes)]).cells 4) = u8s e.bytes := Eq.trans rfl rfl
    rw [q0, q1, q2, q3, q4, wadd1 (by omega)] at ht
    replace ht := fun r q => ht.trans (bif_step (r := r) (decide_eq_true (by omega)) (bif_step (decide_eq_true ⟨rfl, by omega, by omega⟩) (bif_step rfl q)))
    have hc : cS 1 (u8s e.bytes) z' x = true := by
      unfold cS rowB
      have : e.bytes.length ≤ 100000 := of_decide_eq_true hsi
      rw [hx, okB_u8s, decide_eq_true (⟨rfl, by rw [u8s_len]; exact this⟩ : (1 : Nat) = 1 ∧ (u8s e.bytes).length ≤ 100000)]; rfl
    have hst : stolen t x (decide (ix ≥ 0)) e = bif (bif bif e.kind == (2 : Int) then e.host == t.peer else false then e.peer == t.host else false) == true then gS (u8s e.bytes) x (decide (ix ≥ 0)) else false := rfl
    cases hq : (bif bif e.kind == (2 : Int) then e.host == t.peer else false then e.peer == t.host else false) == true
    · have h0 : stolen t x (decide (ix ≥ 0)) e = false := by rw [hst, hq]; rfl
      exact .inl ⟨(), if_neg (by rw [h0]; simp), ht _ (bif_stepF hq rfl), trivial⟩
    · cases hg : gS (u8s e.bytes) x (decide (ix ≥ 0))
      · have h0 : stolen t x (decide (ix ≥ 0)) e = false := by rw [hst, hq, hg]; rfl
        exact .inl ⟨(), if_neg (by rw [h0]; simp), ht _ (bif_step hq (bif_step hc (bif_stepF hg rfl))), trivial⟩
      · have h0 : stolen t x (decide (ix ≥ 0)) e = true := by rw [hst, hq, hg]; rfl
        exact .inr ⟨_, _, if_pos h0, by simp, ht _ (bif_step hq (bif_step hc (bif_step hg rfl)))⟩
  · intro _ _
    rw [hlen]
    have ht := th_in cS gS t.kind t.host t.peer t.at_ nl cl z b nl' cl' z' x ix l.length l
    exact ht.trans (bif_stepF (decide_eq_false (by omega)) rfl)
end
end Go.Proofs.Ytgbddcdpbgaojaa
