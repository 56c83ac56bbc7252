/- The document's Match: what is proved of the given program. It bears no condition. -/
import Derived.Test.YtgbddcdpbgaojaaBdA
namespace Go.Proofs.Ytgbddcdpbgaojaa
open Go Go.Im
set_option linter.unusedVariables false
set_option linter.unusedSimpArgs false
set_option maxRecDepth 20000
noncomputable section

theorem foldE_find2 {α R : Type} (f : α → Bool) (g : Nat → α → R) : ∀ (xs : List α) (i : Nat), (xs.find? f = none ∧ foldE (fun i (_ : Unit) x => if f x = true then .inr (g i x) else .inl ()) i () xs = .inl ()) ∨ ∃ j x, xs.find? f = some x ∧ foldE (fun i (_ : Unit) x => if f x = true then .inr (g i x) else .inl ()) i () xs = .inr (g j x)
  | [], i => .inl ⟨rfl, rfl⟩
  | x :: xs, i => by
    unfold foldE
    rw [List.find?_cons]
    cases h : f x
    · have ih := foldE_find2 f g xs (i + 1)
      simp only [Bool.false_eq_true, if_false]
      exact ih
    · exact .inr ⟨i, x, rfl, by simp⟩
/-! ### Taken -/
def cTk (z : Nat) (l : List IV) : Bool := decide (z = 1 ∧ l.length ≤ 1000) && isInts .i64 l
def gTk (l : List IV) (k : Int) : Bool := (toInts l).contains k
theorem tk_runs {zs : List Int} (hl : zs.length ≤ 1000) {nl : Option Bool} {cl : Bool} {k : Int} :
    EachOK Try.prog hint (acall Try.prog hint (ovrOf fun _ => none)) 0 (hint.kp 23) (loopAt Try.prog 23 26) (Sx 23 (tkV nl cl 1 (zs.map (IV.int .i64)) k false ((0 : Nat) : Int)) []) (.exit 0)
      (fun _ : Unit => Sx 23 (tkV nl cl 1 (zs.map (IV.int .i64)) k false (zs.length : Int)) []) (foldE (fun i (_ : Unit) x => if (x == k) = true then .inr (Ex.ret, Sx 23 (tkV nl cl 1 (zs.map (IV.int .i64)) k true (i : Int)) []) else .inl ()) 0 () zs) := by
  refine runs_each (X := Unit) (l := zs) (n := 30) (ls := fun _ _ => none) loops_none inner0 (fun i _ => Sx 23 (tkV nl cl 1 (zs.map (IV.int .i64)) k false (i : Int)) []) _
    (fun _ _ => True) (by simp) ?_ ?_ zs.length 0 () (by omega) trivial
  · intro i u hi _
    have ht := tk_in nl cl 1 (zs.map (IV.int .i64)) k i
    have e : nthD (zs.map (IV.int .i64)) ((i : Int)).toNat = .int .i64 zs[i] := by rw [Int.toNat_natCast, nthD_map hi]; congr 1; simp [hi]
    rw [e, cell_int, intOf_int, wadd1 (by omega)] at ht
    replace ht := fun r q => ht.trans (bif_step (r := r) (decide_eq_true (by rw [List.length_map]; omega)) (bif_step (decide_eq_true ⟨rfl, by omega, by rw [List.length_map]; omega⟩) (bif_step isOf_int q)))
    cases h : zs[i] == k
    · exact .inl ⟨(), if_neg (by simp), ht _ (bif_stepF h rfl), trivial⟩
    · exact .inr ⟨_, _, if_pos rfl, by simp, ht _ (bif_step h rfl)⟩
  · intro _ _
    have ht := tk_in nl cl 1 (zs.map (IV.int .i64)) k zs.length
    exact ht.trans (bif_stepF (decide_eq_false (by rw [List.length_map]; omega)) rfl)
theorem tk_known : Known Try.prog hint 23 (tkP cTk gTk) := by
  refine known_alt fits fun us T v T1 h => ?_
  unfold tkP at h
  split at h
  case h_2 => cases h
  rename_i nl cl z l k
  simp only [List.mem_cons, List.not_mem_nil, or_false, Prod.mk.injEq, Bool.true_eq] at h
  obtain ⟨h1, rfl, rfl⟩ := h
  unfold cTk at h1
  simp only [Bool.and_eq_true, decide_eq_true_eq] at h1
  obtain ⟨⟨rfl, hl⟩, hi⟩ := h1
  obtain ⟨zs, rfl⟩ : ∃ zs, l = List.map (IV.int .i64) zs := ⟨_, isInts_eq hi⟩
  rw [List.length_map] at hl
  refine ⟨[[.fsl nl cl 1 (zs.map (IV.int .i64)), .int .i64 k]], by simp, Splits.self _, fun ys hy => ?_⟩
  rw [List.mem_singleton] at hy
  subst hy
  have q := tk_runs hl (nl := nl) (cl := cl) (k := k)
  have e0 : gTk (zs.map (IV.int .i64)) k = zs.contains k := by unfold gTk; rw [toInts_map]
  rw [e0]
  rcases foldE_find2 (fun x => x == k) (fun (i : Nat) (_ : Int) => (Ex.ret, Sx 23 (tkV nl cl 1 (zs.map (IV.int .i64)) k true (i : Int)) [])) zs 0 with ⟨hv, hf⟩ | ⟨j, x, hv, hf⟩
  · rw [hf] at q
    have hls : LoopsOK Try.prog hint (acall Try.prog hint (ovrOf fun _ => none)) (ltab [(23, 26, LF 23 0 (oneF (tkV nl cl 1 (zs.map (IV.int .i64)) k false 0) [] (.exit 0) (tkV nl cl 1 (zs.map (IV.int .i64)) k false ((zs.map (IV.int .i64)).length : Int)) []))]) := by
      refine ltab_cons (by kernel_rfl) (loopF_ok fun vs bx e vs' bx' hm => ?_) ltab_nil
      obtain ⟨rfl, rfl, rfl, rfl, rfl⟩ := oneF_mem hm
      rw [List.length_map]
      exact q
    have e1 : zs.contains k = false := by
      rw [List.find?_eq_none] at hv
      cases h : zs.contains k with
      | false => rfl
      | true => exact absurd (beq_self_eq_true k) (by simpa using hv k (List.contains_iff_mem.1 h))
    rw [e1]
    exact ⟨noGd_of rfl, fun _ => none, _, (fun f F h => by cases h), hls, 30, _, Wk.refl _, (tk_no nl cl 1 (zs.map (IV.int .i64)) k).trans (bif_step sameS_t rfl)⟩
  · rw [hf] at q
    have hls : LoopsOK Try.prog hint (acall Try.prog hint (ovrOf fun _ => none)) (ltab [(23, 26, LF 23 0 (oneF (tkV nl cl 1 (zs.map (IV.int .i64)) k false 0) [] .ret (tkV nl cl 1 (zs.map (IV.int .i64)) k true (j : Int)) []))]) := by
      refine ltab_cons (by kernel_rfl) (loopF_ok fun vs bx e vs' bx' hm => ?_) ltab_nil
      obtain ⟨rfl, rfl, rfl, rfl, rfl⟩ := oneF_mem hm
      exact q
    have e1 : zs.contains k = true := by
      have h1 := List.mem_of_find?_eq_some hv
      have h2 := List.find?_some hv
      simp only [beq_iff_eq] at h2
      subst h2
      exact List.contains_iff_mem.2 h1
    rw [e1]
    exact ⟨noGd_of rfl, fun _ => none, _, (fun f F h => by cases h), hls, 30, _, Wk.refl _, (tk_yes nl cl 1 (zs.map (IV.int .i64)) k (j : Int)).trans (bif_step sameS_t rfl)⟩

/-! ### Match: the search for one event's match -/
abbrev M3T : FuncId → Option SpecF := m3T cA gA cTk gTk
theorem M3T_ok : ∀ f F, M3T f = some F → Known Try.prog hint f F := tab_cons alike_known (tab_cons tk_known tab_nil)
abbrev NM : Nat → CallF := acall Try.prog hint (ovrOf M3T)
def m3F (pre : List Ev) (used : List Int) (key : Key) : Nat → Nat → Int × Int
  | k, 0 => (-1, (k : Int))
  | k, j + 1 => bif free pre used key k then ((k : Int), ((k + 1 : Nat) : Int)) else m3F pre used key (k + 1) j
theorem m3F_find (pre : List Ev) (used : List Int) (key : Key) : ∀ j k, (m3F pre used key k j).1 = match (List.range' k j).find? (free pre used key) with
    | some x => (x : Int)
    | none => -1
  | 0, k => rfl
  | j + 1, k => by
    rw [List.range'_succ, List.find?_cons]
    unfold m3F
    cases h : free pre used key k
    · exact m3F_find pre used key j (k + 1)
    · rfl
theorem m3F_fnd (pre : List Ev) (used : List Int) (key : Key) : (m3F pre used key 0 pre.length).1 = fnd pre used key := by
  rw [m3F_find]
  unfold fnd
  rw [List.range_eq_range']
  cases List.find? (free pre used key) (List.range' 0 pre.length) <;> rfl
theorem m3_inner {l : List IV} (ha : l.all isEv = true) (hl : l.length ≤ 1000) {i : Nat} (hi : i < l.length) (h3 : (evOf l[i]).kind = 3) {a : List IV} {ys : List Int} (hy : ys.length ≤ 1000) : ∀ (j k : Nat), k + j = i →
    Runs Try.prog hint NM 0 (hint.kp 13) (loopAt Try.prog 13 29850) (Sx 13 (m3V l (i : Int) (.int .i64 (-1)) (.int .i64 (k : Int))) (m3B a (ys.map (IV.int .i64)))) (.exit 2)
      (Sx 13 (m3V l (i : Int) (.int .i64 (m3F ((evs l).take i) ys (evOf l[i]).t k j).1) (.int .i64 (m3F ((evs l).take i) ys (evOf l[i]).t k j).2)) (m3B a (ys.map (IV.int .i64))))
  | 0, k, h => by
    have ht := m3_in cA gA cTk gTk l a (ys.map (IV.int .i64)) i (-1) k
    refine Runs.last (n := 30) (ls := fun _ _ => none) loops_none inner0 (by simp) (ht.trans (bif_stepF ?_ rfl))
    rw [decide_eq_false (by omega)]; rfl
  | j + 1, k, h => by
    have hk : k < l.length := by omega
    have ht := m3_in cA gA cTk gTk l a (ys.map (IV.int .i64)) i (-1) k
    obtain ⟨nk, ck, hxk, _⟩ := isEv_iff (List.all_eq_true.1 ha _ (List.getElem_mem hk))
    obtain ⟨ni, ci, hxi, _⟩ := isEv_iff (List.all_eq_true.1 ha _ (List.getElem_mem hi))
    have hpre : ((evs l).take i)[k]? = some (evOf l[k]) := by
      rw [List.getElem?_take, if_pos (by omega)]
      simp [evs, hk]
    have hNk := nthD_at hk
    have hNi := nthD_at hi
    rw [hxk] at hNk
    rw [hxi] at hNi
    rw [hNk, hNi, wadd1 (by omega)] at ht
    have hfree : free ((evs l).take i) ys (evOf l[i]).t k = ((evOf l[k]).kind == 1 && decide ((evOf l[k]).s = (evOf l[i]).t) && !(ys.contains (k : Int))) := by
      unfold free
      rw [hpre]
    have eA : alike (evOf l[k]) (evOf l[i]) = ((evOf l[k]).kind == 1 && decide ((evOf l[k]).s = (evOf l[i]).t)) := by
      unfold alike
      rw [h3]
      simp
    have ih := fun (mm : Int) => m3_inner ha hl hi h3 (a := a) hy j (k + 1) (by omega)
    generalize evOf l[k] = x at *
    generalize evOf l[i] = y at *
    have q0 : ∀ (e : Ev) (n : Option Bool) (c : Bool), Im.intOf (nthD (IV.agg [.int .i64 e.kind, .int .u32 e.host, .int .u32 e.peer, .int .i64 e.at_, .fsl n c 1 (u8s e.bytes)]).cells 0) = e.kind := fun e n c => Eq.trans rfl rfl
    have q1 : ∀ (e : Ev) (n : Option Bool) (c : Bool), Im.intOf (nthD (IV.agg [.int .i64 e.kind, .int .u32 e.host, .int .u32 e.peer, .int .i64 e.at_, .fsl n c 1 (u8s e.bytes)]).cells 1) = e.host := fun e n c => Eq.trans rfl rfl
    have q2 : ∀ (e : Ev) (n : Option Bool) (c : Bool), Im.intOf (nthD (IV.agg [.int .i64 e.kind, .int .u32 e.host, .int .u32 e.peer, .int .i64 e.at_, .fsl n c 1 (u8s e.bytes)]).cells 2) = e.peer := fun e n c => Eq.trans rfl rfl
    have q3 : ∀ (e : Ev) (n : Option Bool) (c : Bool), Im.szOf (nthD (IV.agg [.int .i64 e.kind, .int .u32 e.host, .int .u32 e.peer, .int .i64 e.at_, .fsl n c 1 (u8s e.bytes)]).cells 4) = 1 := fun e n c => Eq.trans rfl rfl
    have q4 : ∀ (e : Ev) (n : Option Bool) (c : Bool), Im.rowL (nthD (IV.agg [.int .i64 e.kind, .int .u32 e.host, .int .u32 e.peer, .int .i64 e.at_, .fsl n c 1 (u8s e.bytes)]).cells 4) = u8s e.bytes := fun e n c => Eq.trans rfl rfl
    rw [q0, q0, q1, q1, q2, q2, q3, q3, q4, q4] at ht
    have hg : gA x.kind x.host x.peer (u8s x.bytes) y.kind y.host y.peer (u8s y.bytes) = alike x y := by
      unfold gA
      rw [toBytes_u8s, toBytes_u8s]
      rfl
    rw [hg, eA] at ht
    have hc : cA 1 (u8s x.bytes) 1 (u8s y.bytes) = true := by unfold cA; rw [okB_u8s, okB_u8s]; rfl
    have hct : cTk 1 (ys.map (IV.int .i64)) = true := by unfold cTk; rw [isInts_map, List.length_map, decide_eq_true ⟨rfl, hy⟩]; rfl
    have hgt : gTk (ys.map (IV.int .i64)) (k : Int) = ys.contains (k : Int) := by unfold gTk; rw [toInts_map]
    rw [hgt] at ht
    replace ht := fun r q => ht.trans (bif_step (r := r) (by rw [decide_eq_true (by omega)]; rfl) (bif_step (decide_eq_true ⟨rfl, by omega, by omega⟩) (bif_step rfl (bif_step (decide_eq_true ⟨rfl, by omega, by omega⟩) (bif_step rfl (bif_step hc q))))))
    unfold m3F
    rw [hfree]
    cases c1 : (x.kind == 1 && decide (x.s = y.t))
    · rw [c1] at ht
      rw [Bool.false_and]
      exact Runs.step (n := 30) (ls := fun _ _ => none) loops_none inner0 (ht _ (bif_stepF rfl rfl)) (ih 0)
    · rw [c1] at ht
      rw [Bool.true_and]
      cases c2 : ys.contains (k : Int)
      · rw [c2] at ht
        refine Runs.step (n := 30) (ls := fun _ _ => none) loops_none inner0 (ht _ (bif_step rfl (bif_step hct (bif_step rfl rfl)))) ?_
        have hz := m3_in cA gA cTk gTk l a (ys.map (IV.int .i64)) i k ((k + 1 : Nat) : Int)
        refine Runs.last (n := 30) (ls := fun _ _ => none) loops_none inner0 (by simp) (hz.trans (bif_stepF ?_ rfl))
        rw [decide_eq_false (show ¬ ((k : Int) < 0) by omega)]
        cases decide (((k + 1 : Nat) : Int) < (i : Int)) <;> rfl
      · rw [c2] at ht
        exact Runs.step (n := 30) (ls := fun _ _ => none) loops_none inner0 (ht _ (bif_step rfl (bif_step hct (bif_stepF rfl rfl)))) (ih 0)
end
end Go.Proofs.Ytgbddcdpbgaojaa
