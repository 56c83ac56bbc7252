/- What the laws of this seat lean on: the machine's table of slots that live through loops. It bears no condition. -/
import Derived.Test.YtgbddcdpbgaojaaIm4
import Derived.Test.YtgbddcdpbgaojaaProg
import Derived.Test.YtgbddcdpbgaojaaAuM
namespace Go.Proofs.Ytgbddcdpbgaojaa
open Go Go.Im
set_option linter.unusedVariables false

def kps : FuncId → Keep := fun f => ((([(3, ⟨[0, 1, 2, 6, 7, 8, 9, 10], [], false⟩), (4, ⟨[0, 4, 5, 6, 7, 8], [], false⟩), (5, ⟨[0, 2, 3, 4, 5], [], false⟩), (6, ⟨[6, 7, 8, 9], [], false⟩),
  (8, ⟨[0, 1, 4, 5, 6, 7], [], false⟩), (9, ⟨[0, 2, 3, 4], [], false⟩), (11, ⟨[3, 4, 11, 12, 13], [], false⟩), (12, ⟨[0, 3, 4], [(3, none, 5)], false⟩), (13, ⟨[0, 4, 5, 6, 7, 8], [(4, none, 1), (5, none, 1)], false⟩),
  (14, ⟨[6, 7, 8, 9, 10, 45, 46, 47], [], false⟩), (15, ⟨[0, 3, 4], [(3, none, 2)], false⟩), (16, ⟨[0, 1, 2, 6, 7, 8, 9, 10, 11, 12], [], false⟩),
  (17, ⟨[0, 1, 5, 11, 12, 13], [(5, none, 3)], false⟩), (18, ⟨[0, 1, 5, 6, 7, 8], [(7, none, 3)], false⟩), (21, ⟨[3, 4, 5], [], false⟩), (23, ⟨[0, 1, 4, 5], [], false⟩), (24, ⟨[0, 1, 4, 7, 8], [], false⟩),
  (28, ⟨[0, 1, 2, 6, 7], [], false⟩), (34, ⟨[0, 2, 3, 4, 5, 6], [(5, some 13, 8)], false⟩), (35, ⟨[0, 1, 4, 7, 8], [], false⟩), (36, ⟨[0, 2, 3, 4, 5, 6, 7, 129], [(6, some 13, 8)], false⟩),
  (37, ⟨[0, 1, 4, 7, 8], [], false⟩), (39, ⟨[0, 3, 4], [], false⟩), (42, ⟨[3, 6, 7, 8], [], false⟩), (46, ⟨[0, 3], [], false⟩), (48, ⟨[0, 1, 2], [], true⟩),
  (49, ⟨[0, 2, 3, 4, 5, 31, 32, 33], [], false⟩), (50, ⟨[0, 5, 6], [(5, none, 1)], false⟩), (51, ⟨[0, 3, 4], [], false⟩)] : List (Nat × Keep)).lookup f).getD ⟨[], [], false⟩)
def hint : Hint := { kp := kps, mv := fun _ => [], keep := fun f => match f with | 43 => true | 50 => true | _ => false, gl := fun _ => none }
theorem fits : Fits Try.prog := fits_of (by kernel_rfl) (by kernel_rfl) (by kernel_rfl)
noncomputable abbrev C (spec : FuncId → Option SpecF) (f : FuncId) (xs : List IV) : Option (IV × List Blk) := callK Try.prog hint spec (fun _ _ => none) 30 f xs [] (fun v T => some (v, T))
noncomputable abbrev Cb (spec : FuncId → Option SpecF) (ls : FuncId → Nat → Option LoopF) (f : FuncId) (xs : List IV) (T : List Blk) : Option (IV × List Blk) := callK Try.prog hint spec ls 30 f xs T (fun v T => some (v, T))
noncomputable abbrev Rd (spec : FuncId → Option SpecF) (p : Nat) (f : FuncId) (q : Nat) (s : St) : Option (Ex × St) := roundK Try.prog hint spec (fun _ _ => none) 30 p f q s
noncomputable abbrev Rl (spec : FuncId → Option SpecF) (ls : FuncId → Nat → Option LoopF) (p : Nat) (f : FuncId) (q : Nat) (s : St) : Option (Ex × St) := roundK Try.prog hint spec ls 30 p f q s
noncomputable def Sx (f : FuncId) (vs : List IV) (bx : List Blk) : St := stAt Try.prog hint f vs bx
noncomputable section
def oneF (vs0 : List IV) (bx0 : List Blk) (e : Ex) (vs1 : List IV) (bx1 : List Blk) : LiveF := fun vs bx => [(@decide (vs = vs0 ∧ bx = bx0) (Classical.propDecidable _), e, vs1, bx1)]
def cstF (b : Bool) (e : Ex) (vs1 : List IV) (bx1 : List Blk) : LiveF := fun _ _ => [(b, e, vs1, bx1)]
def sameS (vs : List IV) (bx : List Blk) : Bool := @decide (vs = vs ∧ bx = bx) (Classical.propDecidable _)
theorem sameS_t {vs : List IV} {bx : List Blk} : sameS vs bx = true := @decide_eq_true _ (Classical.propDecidable _) ⟨rfl, rfl⟩
theorem oneF_mem {vs0 vs vs1 vs' : List IV} {bx0 bx bx1 bx' : List Blk} {e0 e : Ex} (h : (true, e, vs', bx') ∈ oneF vs0 bx0 e0 vs1 bx1 vs bx) : vs = vs0 ∧ bx = bx0 ∧ e = e0 ∧ vs' = vs1 ∧ bx' = bx1 := by
  simp only [oneF, List.mem_cons, List.not_mem_nil, or_false, Prod.mk.injEq, Bool.true_eq, decide_eq_true_eq] at h
  exact ⟨h.1.1, h.1.2, h.2.1, h.2.2.1, h.2.2.2⟩
abbrev LF (f p : Nat) (G : LiveF) : LoopF := loopF Try.prog hint f p G
end
def noL : LoopF := fun _ _ => []
end Go.Proofs.Ytgbddcdpbgaojaa
/- Match of the program, as the ideal machine's contract. It bears no condition. -/
namespace Go.Proofs.Ytgbddcdpbgaojaa
open Go Go.Im
set_option linter.unusedVariables false
set_option linter.unusedSimpArgs false

def isEv (x : IV) : Bool := match x with
  | .agg [.int .i64 _, .int .u32 h, .int .u32 p, .int .i64 _, .fsl _ _ 1 bs] => decide (0 ≤ h ∧ h < 4294967296) && decide (0 ≤ p ∧ p < 4294967296) && okB bs && decide (bs.length ≤ 140737488351232)
  | _ => false
def evOf (x : IV) : Ev := match x with
  | .agg [.int .i64 k, .int .u32 h, .int .u32 p, .int .i64 a, .fsl _ _ 1 bs] => ⟨k, h, p, a, toBytes bs⟩
  | _ => ⟨0, 0, 0, 0, []⟩
theorem isEv_iff {x : IV} (hx : isEv x = true) : ∃ nl cl, x = .agg [.int .i64 (evOf x).kind, .int .u32 (evOf x).host, .int .u32 (evOf x).peer, .int .i64 (evOf x).at_, .fsl nl cl 1 (u8s (evOf x).bytes)] ∧
    (0 ≤ (evOf x).host ∧ (evOf x).host < 4294967296) ∧ (0 ≤ (evOf x).peer ∧ (evOf x).peer < 4294967296) ∧ (evOf x).bytes.length ≤ 140737488351232 := by
  unfold isEv at hx
  split at hx
  · rename_i k h p a nl cl bs
    simp only [Bool.and_eq_true, decide_eq_true_eq] at hx
    obtain ⟨⟨⟨h1, h2⟩, h3⟩, h4⟩ := hx
    have e := okB_eq h3
    refine ⟨nl, cl, ?_, h1, h2, ?_⟩
    · simp only [evOf]
      rw [← e]
    · simp only [evOf]
      rw [e, u8s_len] at h4
      exact h4
  · cases hx
/-! ### What lies in the memory -/
theorem rep_at {ok : Nat → Prop} {w : World} {e g : Nat} : ∀ (l : List IV) (o : Nat), RepEs ok w e g o l → ∀ k (h : k < l.length), RepEl ok w e g (o + k * e) l[k]
  | [], _, _, k, h => by simp at h
  | x :: l, o, hr, k, h => by
    rw [RepEs_cons] at hr
    cases k with
    | zero => simpa using hr.1
    | succ k =>
      have ih := rep_at l (o + e) hr.2 k (by simpa using h)
      rw [show o + (k + 1) * e = o + e + k * e by rw [Nat.add_mul]; omega]
      exact ih
theorem und9 : Try.prog.underlying 9 = some .string := by kernel_rfl
theorem und52 : Try.prog.underlying 52 = some (.slice 5) := by kernel_rfl
theorem und5 : Try.prog.underlying 5 = some (.int .u8) := by kernel_rfl
theorem bytes_str (b : List UInt8) : ((b.map fun (c : UInt8) => (c.toNat : Int)).map fun (n : Int) => UInt8.ofNat n.toNat) = b := by
  rw [List.map_map]
  exact (List.map_congr_left fun x _ => by simp).trans (List.map_id b)
theorem conv_at {ok : Nat → Prop} {w W : World} (hok : ∀ g, ok g → g < w.heap.size) (hW : ∀ g, g < w.heap.size → W.heap[g]? = w.heap[g]?) {A : Option Addr} {c : Nat} {b : List UInt8}
    (h : (u8s b) = [] ∨ ∃ g o, A = some ⟨g, o, none⟩ ∧ ok g ∧ RepEs ok w 1 g o (u8s b)) : (convert 52 9 (.slice A (u8s b).length c)).run Try.prog W = .ok (.string (bsOf b)) W := by
  rcases h with h | ⟨g, o, rfl, hg, hr⟩
  · have hb : b = [] := u8s_nil_iff.1 h
    subst hb
    cases A with
    | none => exact run_convert_bytes_nil (P := Try.prog) W 52 5 und52 und5 0 c 9 und9
    | some A =>
      obtain ⟨g, o', sp⟩ := A
      show (convert 52 9 (.slice (some ⟨g, o', sp⟩) 0 c)).run Try.prog W = _
      rw [run_convert_bytes_string W 52 9 5 _ _ c und52 und5 und9]
      exact run_bytesToString (P := Try.prog) W ⟨g, o', sp⟩ 0 c [] (by simp [loadCells, loadCellsFrom])
  · have hlt := hok g hg
    have key := run_convert_bytes_arg (P := Try.prog) W 52 5 und52 und5 g o (u8s b).length c (b.map fun (c : UInt8) => (c.toNat : Int)) (by simp [u8s_len]) (fun i hi => by
      have hi' : i < b.length := by rw [u8s_len] at hi; exact hi
      have := rep_at _ _ hr i (by rw [u8s_len]; exact hi')
      have hx : (u8s b)[i]'(by rw [u8s_len]; exact hi') = .int .u8 ((b[i]).toNat : Int) := by simp [u8s]
      rw [hx] at this
      obtain ⟨_, h2⟩ := this
      simp only [IV.cells, RepCs, RepC, and_true, Nat.mul_one] at h2
      obtain ⟨_, v, h3, rfl⟩ := h2
      rw [← cell_of_heap (hW g hlt)] at h3
      rw [h3]
      simp [List.getD, hi']) 9 und9
    rw [key]
    have e : strOfNums (b.map fun (c : UInt8) => (c.toNat : Int)) = bsOf b := by
      unfold strOfNums bsOf
      rw [bytes_str]
    rw [e]
theorem ev_at {ok : Nat → Prop} {w : World} (hok : ∀ g, ok g → g < w.heap.size) {g o : Nat} {x : IV} (hx : isEv x = true) (h : RepEl ok w 5 g o x) : ∃ A m c, EvAt w g o (evOf x) A m c := by
  obtain ⟨nl, cl, hxe, hh, hp, hb⟩ := isEv_iff hx
  generalize evOf x = e at *
  subst hxe
  obtain ⟨_, h⟩ := h
  simp only [IV.cells, RepCs, RepC, and_true] at h
  obtain ⟨⟨_, v0, c0, rfl⟩, ⟨_, v1, c1, rfl⟩, ⟨_, v2, c2, rfl⟩, ⟨_, v3, c3, rfl⟩, ⟨_, v4, c4, A, c, rfl, _, _, _, _, hr⟩⟩ := h
  refine ⟨A, (u8s e.bytes).length, c, ⟨c0, c1, c2, c3, c4, fun W hW => conv_at hok hW hr, hh, hp, ?_⟩⟩
  unfold bsOf maxLen
  show e.bytes.toArray.size ≤ _
  simp
  omega

/-! ### The contract -/
def matP (c : List IV → Bool) (g : List IV → List IV) : SpecF := fun us T => match us, T with
  | [.fsl nl cl 5 l], [] => [(c l, .fsl none false 2 (g l), [])]
  | _, _ => []
def ivM (m : Int × Int) : IV := .agg [.int .i64 m.1, .int .i64 m.2]
def cM (l : List IV) : Bool := decide (l.length ≤ 1000) && l.all isEv
def gM (l : List IV) : List IV := (mat (l.map evOf)).map ivM
theorem rows_rep {ok : Nat → Prop} {w : World} {g : Nat} {cur : Array Value} {ty : TypeId} (hh : w.heap[g]? = some (.cells cur ty (0, 0))) : ∀ (out : List (Int × Int)) (o : Nat), (∀ j (h : j < (cellsO out).length), cur[o + j]? = some (cellsO out)[j]) → RepEs ok w 2 g o (out.map ivM)
  | [], _, _ => by simp [RepEs]
  | m :: out, o, h => by
    rw [List.map_cons, RepEs_cons]
    have hc : cellsO (m :: out) = .int .i64 m.1 :: .int .i64 m.2 :: cellsO out := rfl
    have h0 := h 0 (by rw [hc]; simp)
    have h1 := h 1 (by rw [hc]; simp)
    simp only [hc, List.getElem_cons_zero, List.getElem_cons_succ, Nat.add_zero] at h0 h1
    refine ⟨⟨rfl, ?_⟩, rows_rep hh out (o + 2) fun j hj => ?_⟩
    · simp only [ivM, IV.cells, RepCs, RepC, and_true]
      exact ⟨⟨rfl, _, by simpa [World.cell?, hh] using h0, rfl⟩, rfl, _, by simpa [World.cell?, hh] using h1, rfl⟩
    · have := h (j + 2) (by rw [hc]; simp; omega)
      rw [show o + (j + 2) = o + 2 + j by omega] at this
      simpa [hc] using this
theorem pre_map (l : List IV) (n : Nat) (h : n = l.length) : pre (fun k => evOf (l.getD k .undef)) n = l.map evOf := by
  subst h
  unfold pre
  refine List.ext_getElem (by simp) fun i h1 h2 => ?_
  have : i < l.length := by simpa using h2
  simp [this]
theorem match_known : Known Try.prog hint 11 (matP cM gM) := by
  intro f xs T r T1 hr
  simp only at hr
  split at hr
  case isFalse => cases hr
  rename_i hf
  subst hf
  refine ⟨⟨_, Try.func11, by decide, rfl⟩, ?_⟩
  intro Γ w vs hi hT hgl hrep hng
  obtain ⟨⟨t, v, T2⟩, hF, e⟩ := Option.map_eq_some_iff.1 hr
  cases e
  have ht := List.find?_some hF
  have hm := List.mem_of_find?_eq_some hF
  simp only at ht
  subst ht
  unfold matP at hm
  split at hm
  case h_2 => cases hm
  rename_i nl cl l
  simp only [List.mem_cons, List.not_mem_nil, or_false, Prod.mk.injEq, Bool.true_eq, cM, Bool.and_eq_true, decide_eq_true_eq] at hm
  obtain ⟨⟨hlen, hall⟩, rfl, rfl⟩ := hm
  simp only [RepL] at hrep
  obtain ⟨v1, us, rfl, hv1, rfl⟩ := hrep
  simp only [Rep, RepC] at hv1
  obtain ⟨A, c, rfl, _, _, _, _, hlies⟩ := hv1
  have hgoal : ∀ e' w', (∃ v, e' = Ending.returned v ∧ MInv w (fun k => evOf (l.getD k .undef)) w' l.length v) → ∃ v Γ', e' = Ending.returned v ∧ Γ'.T = [] ∧ Fr ([] : List Blk).length Γ w Γ' w' ∧ Rep Γ' w' (.fsl none false 2 (gM l)) v := by
    rintro e' w' ⟨v, rfl, hM⟩
    have hout := hM.out
    have hbl := hM.below
    rw [pre_map l _ rfl] at hout
    have hρ : Γ.ρ = [] := List.length_eq_zero_iff.1 (by rw [hi.len, hT]; rfl)
    refine ⟨v, ⟨fun g => Γ.ok g ∨ (w.heap.size ≤ g ∧ g < w'.heap.size), [], []⟩, rfl, rfl, ⟨⟨rfl, ?_, ?_, ?_, ?_, ?_⟩, ⟨fun g r h => ⟨r, ?_, Stat.refl r⟩, hbl.os, hbl.tape, hbl.output, hbl.size, fun g hg _ => hbl.block g hg⟩, ?_, ?_, ?_, fun g hg => ⟨.inl hg, hbl.block g (hi.okb g hg)⟩, Nat.zero_le _, ?_, ?_, ?_⟩, ?_⟩
    · rintro g (hg | hg)
      · exact Nat.lt_of_lt_of_le (hi.okb g hg) hbl.size
      · exact hg.2
    · intro b fz cs h; simp at h
    · intro b ver fz e l h; simp at h
    · intro b j h; simp at h
    · intro b b' g k k' h; simp at h
    · rw [hbl.block g (Array.getElem?_eq_some_iff.1 h).1]; exact h
    · rintro g ⟨b, k, h, _⟩; simp at h
    · rintro g (hg | hg)
      · exact .inl hg
      · exact .inr (.inr hg.1)
    · rintro g ⟨b, k, h, _⟩; simp at h
    · intro b fz cs _ h; simp at h
    · intro b ver fz e l _ h; simp at h
    · intro b j _ h; simp at h
    · simp only [Rep, RepC]
      rcases hout.2 with ⟨rfl, h0⟩ | ⟨g, cap, cur, rfl, hb, hg, hn, hc, hs, ht⟩
      · have : gM l = [] := by
          unfold gM mat
          rw [List.length_eq_zero_iff.1 h0]; rfl
        rw [this]
        exact ⟨none, 0, rfl, Nat.le_refl _, (fun h => by cases h), (fun h => by cases h), (fun h => by cases h), .inl rfl⟩
      · refine ⟨some ⟨g, 0, none⟩, cap, by unfold gM mat; simp, by unfold gM mat; simpa using hn, (fun h => by cases h), (fun h => by cases h), (fun h => by cases h), .inr ⟨g, 0, rfl, .inr ⟨by omega, (Array.getElem?_eq_some_iff.1 hg).1⟩, ?_⟩⟩
        unfold gM mat
        refine rows_rep hg _ 0 fun j hj => ?_
        have hcl : (cellsO (ms (l.map evOf)).out).length = (ms (l.map evOf)).out.length * 2 := hout.1
        have : (cur.toList.take ((ms (l.map evOf)).out.length * 2))[j]? = (cellsO (ms (l.map evOf)).out)[j]? := by rw [ht]
        rw [List.getElem?_take, if_pos (by omega), List.getElem?_eq_getElem hj] at this
        simpa using this
  rcases hlies with rfl | ⟨g, o, rfl, hok, hr⟩
  · exact (match_none A c w _).mono hgoal
  · refine (match_any g o l.length c w (fun k => evOf (l.getD k .undef)) hlen (hi.okb g hok) fun k hk => ?_).mono hgoal
    have h1 := rep_at l o hr k hk
    have h2 : l.getD k .undef = l[k] := by simp [List.getD, hk]
    rw [h2]
    exact ev_at hi.okb (List.all_eq_true.1 hall _ (List.getElem_mem hk)) h1
end Go.Proofs.Ytgbddcdpbgaojaa
/- A log laid anew, how long it is, and what is alike: rounds and calls. It bears no condition. -/
-- BYTES bytsO
-- SUB (b0 : Bool)  => 
-- SUB (b0 : Bool) => 
-- SUB cstF b0 (.exit 0) (owV => oneF (owV nl cl l 0) [.row 0 false 5 []] (.exit 0) (owV
-- SUB bif b0 then some (IV.osl => bif sameS (owV nl cl l 0) [.row 0 false 5 []] then some (IV.osl
-- SUB cstF b0 (.exit 0) (loV => oneF (loV nl cl l false 0 0) [] (.exit 0) (loV
-- SUB cstF b0 .ret (loV => oneF (loV nl cl l false 0 0) [] .ret (loV
-- SUB bif b0 then some (IV.bool => bif sameS (loV nl cl l false 0 0) [] then some (IV.bool
namespace Go.Proofs.Ytgbddcdpbgaojaa
open Go Go.Im
set_option linter.unusedVariables false
set_option linter.unusedSimpArgs false
theorem join_nil (nl : Option Bool) (cl : Bool) (a : List IV) : C (tab []) 22 [.fsl nl cl 1 a, .fsl (some true) true 0 []] = (bif decide (((0 : Nat) = (1 : Nat) ∨ (0 : Nat) = (0 : Nat)) ∧ ((0 : Nat) = (0 : Nat) ∨ (0 : Nat) < a.length) ∧ ((0 : Nat) + a.length) * (1 : Nat) ≤ roomB ∧ (0 : Nat) + a.length ≤ maxLen) then bif decide ((([] ++ a).length + (0 : Nat)) * (1 : Nat) ≤ roomB ∧ ([] ++ a).length + (0 : Nat) ≤ maxLen) then some (IV.osl (nat_lit 0) (nat_lit 0), [Blk.row (nat_lit 0) false (nat_lit 1) ([] ++ a ++ [])]) else none else none) := by kernel_rfl
def joP (c : Nat → List IV → Bool) : SpecF := fun us T => match us, T with
  | [.fsl nl cl z a, .fsl (some true) true 0 []], [] => [(c z a, .fsl none false 1 a, [])]
  | _, _ => []
abbrev owV (nl : Option Bool) (cl : Bool) (l : List IV) (i : Int) : List IV := [.fsl nl cl 5 l, .osl 0 0, .int .i64 i]
theorem own_in (c : Nat → List IV → Bool) (nl : Option Bool) (cl : Bool) (l out : List IV) (i : Int) : Rd (tab [(22, joP c)]) 0 12 58 (Sx 12 (owV nl cl l i) [.row 0 false 5 out]) = (bif decide (i < (↑l.length : Int)) then bif decide ((5 : Nat) = (5 : Nat) ∧ (0 : Int) ≤ i ∧ i < (↑l.length : Int)) then bif testAll ([LT.i IntKind.i64] ++ ([LT.i IntKind.u32] ++ ([LT.i IntKind.u32] ++ ([LT.i IntKind.i64] ++ ([LT.sl] ++ []))))) (0 : Nat) (nthD l i.toNat).cells then bif c (szOf (nthD (nthD l i.toNat).cells (4 : Nat))) (rowL (nthD (nthD l i.toNat).cells (4 : Nat))) then bif decide ((out.length + [IV.agg [IV.int .i64 (intOf (nthD (nthD l i.toNat).cells (0 : Nat))), IV.int .u32 (intOf (nthD (nthD l i.toNat).cells (1 : Nat))), IV.int .u32 (intOf (nthD (nthD l i.toNat).cells (2 : Nat))), IV.int .i64 (intOf (nthD (nthD l i.toNat).cells (3 : Nat))), IV.fsl none false (1 : Nat) (rowL (nthD (nthD l i.toNat).cells (4 : Nat)))]].length) * (48 : Nat) ≤ roomB ∧ out.length + [IV.agg [IV.int .i64 (intOf (nthD (nthD l i.toNat).cells (0 : Nat))), IV.int .u32 (intOf (nthD (nthD l i.toNat).cells (1 : Nat))), IV.int .u32 (intOf (nthD (nthD l i.toNat).cells (2 : Nat))), IV.int .i64 (intOf (nthD (nthD l i.toNat).cells (3 : Nat))), IV.fsl none false (1 : Nat) (rowL (nthD (nthD l i.toNat).cells (4 : Nat)))]].length ≤ maxLen) then some (Ex.normal, Sx (12 : Nat) [IV.fsl nl cl (nat_lit 5) l, IV.osl (nat_lit 0) (nat_lit 0), IV.int .i64 (IntKind.i64.wrap (i + (1 : Int)))] [Blk.row (nat_lit 0) false (nat_lit 5) (out ++ [IV.agg [IV.int .i64 (intOf (nthD (nthD l i.toNat).cells (0 : Nat))), IV.int .u32 (intOf (nthD (nthD l i.toNat).cells (1 : Nat))), IV.int .u32 (intOf (nthD (nthD l i.toNat).cells (2 : Nat))), IV.int .i64 (intOf (nthD (nthD l i.toNat).cells (3 : Nat))), IV.fsl none false (1 : Nat) (rowL (nthD (nthD l i.toNat).cells (4 : Nat)))]])]) else none else none else none else none else some (Ex.exit (nat_lit 0), Sx (12 : Nat) [IV.fsl nl cl (nat_lit 5) l, IV.osl (nat_lit 0) (nat_lit 0), IV.int .i64 i] [Blk.row (nat_lit 0) false (nat_lit 5) out])) := by kernel_rfl
theorem own_call (c : Nat → List IV → Bool) (nl : Option Bool) (cl : Bool) (l out : List IV) : Cb (tab [(22, joP c)]) (ltab [(12, 58, LF 12 0 (oneF (owV nl cl l 0) [.row 0 false 5 []] (.exit 0) (owV nl cl l (l.length : Int)) [.row 0 false 5 out]))]) 12 [.fsl nl cl 5 l] [] = (bif sameS (owV nl cl l 0) [.row 0 false 5 []] then some (IV.osl (nat_lit 0) (nat_lit 0), [Blk.row (nat_lit 0) false (nat_lit 5) out]) else none) := by kernel_rfl
abbrev loV (nl : Option Bool) (cl : Bool) (l : List IV) (b : Bool) (n i : Int) : List IV := [.fsl nl cl 5 l, .bool b, .int .i64 n, .int .i64 i]
theorem lo_in (nl : Option Bool) (cl : Bool) (l : List IV) (n i : Int) : Rd (tab []) 0 9 122 (Sx 9 (loV nl cl l false n i) []) = (bif decide (i < (↑l.length : Int)) then bif decide ((5 : Nat) = (5 : Nat) ∧ (0 : Int) ≤ i ∧ i < (↑l.length : Int)) then bif isOf LT.sl (nthD (List.drop (4 : Nat) (nthD l i.toNat).cells) (0 : Nat)) then bif decide (IntKind.i64.wrap (n + (↑(rowL (nthD (List.drop (4 : Nat) (nthD l i.toNat).cells) (0 : Nat))).length : Int)) > (8000 : Int)) then some (Ex.ret, Sx (9 : Nat) [IV.fsl nl cl (nat_lit 5) l, IV.bool true, IV.int .i64 (IntKind.i64.wrap (n + (↑(rowL (nthD (List.drop (4 : Nat) (nthD l i.toNat).cells) (0 : Nat))).length : Int))), IV.int .i64 i] []) else some (Ex.normal, Sx (9 : Nat) [IV.fsl nl cl (nat_lit 5) l, IV.bool false, IV.int .i64 (IntKind.i64.wrap (n + (↑(rowL (nthD (List.drop (4 : Nat) (nthD l i.toNat).cells) (0 : Nat))).length : Int))), IV.int .i64 (IntKind.i64.wrap (i + (1 : Int)))] []) else none else none else some (Ex.exit (nat_lit 0), Sx (9 : Nat) [IV.fsl nl cl (nat_lit 5) l, IV.bool false, IV.int .i64 n, IV.int .i64 i] [])) := by kernel_rfl
theorem lo_none (nl : Option Bool) (cl : Bool) (l : List IV) : Cb (tab []) (ltab [(9, 122, noL)]) 9 [.fsl nl cl 5 l] [] = (bif decide ((↑l.length : Int) > (50 : Int)) then some (IV.bool true, []) else none) := by kernel_rfl
theorem lo_no (nl : Option Bool) (cl : Bool) (l : List IV) (n : Int) : Cb (tab []) (ltab [(9, 122, LF 9 0 (oneF (loV nl cl l false 0 0) [] (.exit 0) (loV nl cl l false n (l.length : Int)) []))]) 9 [.fsl nl cl 5 l] [] = (bif decide ((↑l.length : Int) > (50 : Int)) then some (IV.bool true, []) else bif sameS (loV nl cl l false 0 0) [] then some (IV.bool false, []) else none) := by kernel_rfl
theorem lo_yes (nl : Option Bool) (cl : Bool) (l : List IV) (n i : Int) : Cb (tab []) (ltab [(9, 122, LF 9 0 (oneF (loV nl cl l false 0 0) [] .ret (loV nl cl l true n i) []))]) 9 [.fsl nl cl 5 l] [] = (bif decide ((↑l.length : Int) > (50 : Int)) then some (IV.bool true, []) else bif sameS (loV nl cl l false 0 0) [] then some (IV.bool true, []) else none) := by kernel_rfl
theorem alike_tree (k h p a k' h' p' a' : Int) (nl nl' : Option Bool) (cl cl' : Bool) (b b' : List IV) : C (tab []) 20 [.agg [.int .i64 k, .int .u32 h, .int .u32 p, .int .i64 a, .fsl nl cl 1 b], .agg [.int .i64 k', .int .u32 h', .int .u32 p', .int .i64 a', .fsl nl' cl' 1 b']] = (bif decide ((1 : Nat) = (1 : Nat) ∨ b.length = (0 : Nat)) && isBytes b then bif decide ((1 : Nat) = (1 : Nat) ∨ b'.length = (0 : Nat)) && isBytes b' then some (IV.bool (bif bif bif bif k == (1 : Int) then k' == (3 : Int) else false then h == p' else false then p == h' else false then toBytes b == toBytes b' else false), []) else none else none) := by kernel_rfl
end Go.Proofs.Ytgbddcdpbgaojaa
/- A log laid anew, how long it is, and what is alike: what the given program does. It bears no condition. -/
namespace Go.Proofs.Ytgbddcdpbgaojaa
open Go Go.Im
set_option linter.unusedVariables false
set_option linter.unusedSimpArgs false
noncomputable section

/-! ### Join with nothing -/
def cJ (z : Nat) (a : List IV) : Bool := Nat.beq z 1 && okB a && decide (a.length ≤ 140737488351232)
theorem join_known : Known Try.prog hint 22 (joP cJ) := by
  refine known_frz fits fun us T v T1 h => ?_
  unfold joP at h
  split at h
  case h_2 => cases h
  rename_i nl cl z a
  simp only [List.mem_cons, List.not_mem_nil, or_false, Prod.mk.injEq, Bool.true_eq, cJ, Bool.and_eq_true, decide_eq_true_eq] at h
  obtain ⟨⟨⟨h1, h2⟩, h3⟩, rfl, rfl⟩ := h
  obtain rfl := Nat.eq_of_beq_eq_true h1
  refine ⟨rfl, rfl, [[.fsl nl cl 1 a, .fsl (some true) true 0 []]], by simp, Splits.self _, fun ys hy => ?_⟩
  rw [List.mem_singleton] at hy
  subst hy
  refine ⟨noGd_of rfl, tab [], _, tab_nil, loops_none, 30, .osl 0 0, [.row 0 false 1 ([] ++ a ++ [])], .fsl none false 1 a, [0], ?_, ?_, Wk.refl _⟩
  · refine (join_nil nl cl a).trans (bif_step (decide_eq_true ?_) (bif_step (decide_eq_true ?_) rfl))
    · rw [roomB_nat, maxLen_val]; exact ⟨.inr rfl, .inl rfl, by omega, by omega⟩
    · rw [roomB_nat, maxLen_val, List.nil_append]; omega
  · rw [List.nil_append, List.append_nil]; rfl

/-! ### Events -/
def evF (e : Ev) : IV := .agg [.int .i64 e.kind, .int .u32 e.host, .int .u32 e.peer, .int .i64 e.at_, .fsl none false 1 (u8s e.bytes)]
/-- An event that is small. -/
structure EvOK (e : Ev) : Prop where
  host : 0 ≤ e.host ∧ e.host < 4294967296
  peer : 0 ≤ e.peer ∧ e.peer < 4294967296
  len : e.bytes.length ≤ 140737488351232
theorem isEv_of {e : Ev} (h : EvOK e) (nl : Option Bool) (cl : Bool) : isEv (.agg [.int .i64 e.kind, .int .u32 e.host, .int .u32 e.peer, .int .i64 e.at_, .fsl nl cl 1 (u8s e.bytes)]) = true := by
  unfold isEv
  simp only [Bool.and_eq_true, decide_eq_true_eq]
  exact ⟨⟨⟨h.host, h.peer⟩, okB_u8s _⟩, by rw [u8s_len]; exact h.len⟩
theorem evOf_agg (e : Ev) (nl : Option Bool) (cl : Bool) : evOf (.agg [.int .i64 e.kind, .int .u32 e.host, .int .u32 e.peer, .int .i64 e.at_, .fsl nl cl 1 (u8s e.bytes)]) = e := by
  unfold evOf
  simp only [toBytes_u8s]
theorem ok_of_is {x : IV} (h : isEv x = true) : EvOK (evOf x) := by
  obtain ⟨_, _, _, h1, h2, h3⟩ := isEv_iff h
  exact ⟨h1, h2, h3⟩
abbrev evs (l : List IV) : List Ev := l.map evOf
theorem evs_F (l : List Ev) : evs (l.map evF) = l := by
  unfold evs
  rw [List.map_map]
  exact (List.map_congr_left fun e _ => evOf_agg e none false).trans (List.map_id l)
theorem all_F {l : List Ev} (h : ∀ e ∈ l, EvOK e) : (l.map evF).all isEv = true := by
  rw [List.all_eq_true]
  intro x hx
  obtain ⟨e, he, rfl⟩ := List.mem_map.1 hx
  exact isEv_of (h e he) none false
theorem all_ok {l : List IV} (h : l.all isEv = true) : ∀ e ∈ evs l, EvOK e := fun e he => by
  obtain ⟨x, hx, rfl⟩ := List.mem_map.1 he
  exact ok_of_is (List.all_eq_true.1 h x hx)
theorem nthD_at {l : List IV} {i : Nat} (h : i < l.length) : nthD l ((i : Int)).toNat = l[i] := by
  rw [Int.toNat_natCast]
  simp [nthD, List.getD, h]

/-! ### Own -/
def cO (l : List IV) : Bool := l.all isEv && decide (l.length ≤ 1000)
def owP (c : List IV → Bool) (g : List IV → List IV) : SpecF := fun us T => match us, T with
  | [.fsl nl cl 5 l], [] => [(c l, .fsl none false 5 (g l), [])]
  | _, _ => []
def gO (l : List IV) : List IV := (evs l).map evF
abbrev tabO : FuncId → Option SpecF := tab [(22, joP cJ)]
theorem tabO_ok : ∀ f F, tabO f = some F → Known Try.prog hint f F := tab_cons join_known tab_nil
theorem own_runs {l : List IV} (ha : l.all isEv = true) (hl : l.length ≤ 1000) {nl : Option Bool} {cl : Bool} :
    EachOK Try.prog hint (acall Try.prog hint (ovrOf tabO)) 0 (hint.kp 12) (loopAt Try.prog 12 58) (Sx 12 (owV nl cl l ((0 : Nat) : Int)) [.row 0 false 5 ((evs (l.take 0)).map evF)]) (.exit 0)
      (fun _ : Unit => Sx 12 (owV nl cl l (l.length : Int)) [.row 0 false 5 ((evs (l.take l.length)).map evF)]) (foldE (fun (_ : Nat) (_ : Unit) (_ : IV) => (Sum.inl () : Unit ⊕ (Ex × St))) 0 () l) := by
  refine runs_each (X := Unit) (l := l) (n := 30) (ls := fun _ _ => none) loops_none inner0 (fun i _ => Sx 12 (owV nl cl l (i : Int)) [.row 0 false 5 ((evs (l.take i)).map evF)]) _
    (fun _ _ => True) (by simp) ?_ ?_ l.length 0 () (by omega) trivial
  · intro i _ hi _
    refine .inl ⟨(), rfl, ?_, trivial⟩
    have ht := own_in cJ nl cl l ((evs (l.take i)).map evF) i
    obtain ⟨nl', cl', hx, _, _, hb⟩ := isEv_iff (List.all_eq_true.1 ha _ (List.getElem_mem hi))
    have e : (evs (l.take (i + 1))).map evF = (evs (l.take i)).map evF ++ [evF (evOf l[i])] := by
      rw [List.take_succ_eq_append_getElem hi, evs, List.map_append, List.map_append]
      rfl
    rw [e]
    rw [nthD_at hi, wadd1 (by omega)] at ht
    generalize evOf l[i] = ev at *
    rw [hx] at ht
    refine ht.trans (bif_step (decide_eq_true (by omega)) (bif_step (decide_eq_true ⟨rfl, by omega, by omega⟩) (bif_step rfl (bif_step ?_ (bif_step (decide_eq_true ?_) rfl)))))
    · show cJ 1 (u8s ev.bytes) = true
      unfold cJ
      rw [okB_u8s, u8s_len, decide_eq_true hb]; rfl
    · rw [roomB_nat, maxLen_val]
      simp only [List.length_cons, List.length_nil, List.length_map, List.length_take]
      omega
  · intro _ _
    have ht := own_in cJ nl cl l ((evs (l.take l.length)).map evF) l.length
    exact ht.trans (bif_stepF (decide_eq_false (by omega)) rfl)
theorem own_known : Known Try.prog hint 12 (owP cO gO) := by
  refine known_frz fits fun us T v T1 h => ?_
  unfold owP at h
  split at h
  case h_2 => cases h
  rename_i nl cl l
  simp only [List.mem_cons, List.not_mem_nil, or_false, Prod.mk.injEq, Bool.true_eq, cO, Bool.and_eq_true, decide_eq_true_eq] at h
  obtain ⟨⟨h1, h2⟩, rfl, rfl⟩ := h
  refine ⟨rfl, rfl, [[.fsl nl cl 5 l]], by simp, Splits.self _, fun ys hy => ?_⟩
  rw [List.mem_singleton] at hy
  subst hy
  have q := own_runs h1 h2 (nl := nl) (cl := cl)
  rw [foldE_inl (g := fun (_ : Unit) (_ : IV) => ()) (fun _ _ _ => rfl), List.take_length] at q
  have hls : LoopsOK Try.prog hint (acall Try.prog hint (ovrOf tabO)) (ltab [(12, 58, LF 12 0 (oneF (owV nl cl l 0) [.row 0 false 5 []] (.exit 0) (owV nl cl l (l.length : Int)) [.row 0 false 5 (gO l)]))]) := by
    refine ltab_cons (by kernel_rfl) (loopF_ok fun vs bx e vs' bx' hm => ?_) ltab_nil
    obtain ⟨rfl, rfl, rfl, rfl, rfl⟩ := oneF_mem hm
    exact q
  exact ⟨noGd_of rfl, tabO, _, tabO_ok, hls, 30, .osl 0 0, [.row 0 false 5 (gO l)], .fsl none false 5 (gO l), [0], (own_call cJ nl cl l (gO l)).trans (bif_step sameS_t rfl), rfl, Wk.refl _⟩

/-! ### long -/
def overN : Nat → List Ev → Bool
  | _, [] => false
  | n, e :: es => decide (8000 < n + e.bytes.length) || overN (n + e.bytes.length) es
def longB (l : List Ev) : Bool := decide (50 < l.length) || overN 0 l
theorem long_len {l : List Ev} (h : longB l = false) : l.length ≤ 50 := by
  unfold longB at h
  rw [Bool.or_eq_false_iff] at h
  have := of_decide_eq_false h.1
  omega
def loStep (nl : Option Bool) (cl : Bool) (l : List IV) (i : Nat) (n : Nat) (x : IV) : Nat ⊕ (Ex × St) :=
  if 8000 < n + (evOf x).bytes.length then .inr (.ret, Sx 9 (loV nl cl l true ((n + (evOf x).bytes.length : Nat) : Int) (i : Int)) []) else .inl (n + (evOf x).bytes.length)
theorem lo_fold (nl : Option Bool) (cl : Bool) (L : List IV) : ∀ (l : List IV) (i n : Nat), (overN n (evs l) = false ∧ ∃ m : Nat, foldE (loStep nl cl L) i n l = .inl m) ∨ (overN n (evs l) = true ∧ ∃ m j : Nat, foldE (loStep nl cl L) i n l = .inr (.ret, Sx 9 (loV nl cl L true (m : Int) (j : Int)) []))
  | [], i, n => .inl ⟨rfl, n, rfl⟩
  | x :: l, i, n => by
    have ih := lo_fold nl cl L l (i + 1) (n + (evOf x).bytes.length)
    unfold foldE
    have e0 : overN n (evs (x :: l)) = (decide (8000 < n + (evOf x).bytes.length) || overN (n + (evOf x).bytes.length) (evs l)) := rfl
    rw [e0]
    by_cases h : 8000 < n + (evOf x).bytes.length
    · right
      rw [decide_eq_true h]
      refine ⟨rfl, n + (evOf x).bytes.length, i, ?_⟩
      simp only [loStep]
      rw [if_pos h]
    · rw [decide_eq_false h, Bool.false_or]
      have e1 : loStep nl cl L i n x = .inl (n + (evOf x).bytes.length) := by unfold loStep; rw [if_neg h]
      rw [e1]
      exact ih
theorem lo_runs {l : List IV} (ha : l.all isEv = true) (hl : l.length ≤ 50) {nl : Option Bool} {cl : Bool} :
    EachOK Try.prog hint (acall Try.prog hint (ovrOf (tab []))) 0 (hint.kp 9) (loopAt Try.prog 9 122) (Sx 9 (loV nl cl l false ((0 : Nat) : Int) ((0 : Nat) : Int)) []) (.exit 0)
      (fun n : Nat => Sx 9 (loV nl cl l false (n : Int) (l.length : Int)) []) (foldE (loStep nl cl l) 0 0 l) := by
  refine runs_each (X := Nat) (l := l) (n := 30) (ls := fun _ _ => none) loops_none inner0 (fun i n => Sx 9 (loV nl cl l false ((n : Nat) : Int) (i : Int)) []) _
    (fun i n => n ≤ 8000) (by simp) ?_ ?_ l.length 0 0 (by omega) (by omega)
  · intro i n hi hn
    have ht := lo_in nl cl l n i
    obtain ⟨nl', cl', hx, _, _, hb⟩ := isEv_iff (List.all_eq_true.1 ha _ (List.getElem_mem hi))
    unfold loStep
    rw [nthD_at hi, wadd1 (by omega)] at ht
    generalize evOf l[i] = ev at *
    rw [hx] at ht
    have e1 : (rowL (nthD (List.drop 4 (IV.agg [.int .i64 ev.kind, .int .u32 ev.host, .int .u32 ev.peer, .int .i64 ev.at_, .fsl nl' cl' 1 (u8s ev.bytes)]).cells) 0)).length = ev.bytes.length := by
      show (u8s ev.bytes).length = _
      exact u8s_len _
    rw [e1, wadd (by omega)] at ht
    replace ht := fun r k => ht.trans (bif_step (r := r) (decide_eq_true (by omega)) (bif_step (decide_eq_true ⟨rfl, by omega, by omega⟩) (bif_step rfl k)))
    by_cases hg : 8000 < n + ev.bytes.length
    · exact .inr ⟨_, _, by rw [if_pos hg], by simp, ht _ (bif_step (decide_eq_true (by omega)) rfl)⟩
    · exact .inl ⟨_, by rw [if_neg hg], ht _ (bif_stepF (decide_eq_false (by omega)) rfl), by omega⟩
  · intro n hn
    have ht := lo_in nl cl l n l.length
    exact ht.trans (bif_stepF (decide_eq_false (by omega)) rfl)
def lgP (c g : List IV → Bool) : SpecF := fun us T => match us, T with
  | [.fsl nl cl 5 l], [] => [(c l, .bool (g l), [])]
  | _, _ => []
def cE (l : List IV) : Bool := l.all isEv
def gLong (l : List IV) : Bool := longB (evs l)
theorem long_known : Known Try.prog hint 9 (lgP cE gLong) := by
  refine known_alt fits fun us T v T1 h => ?_
  unfold lgP at h
  split at h
  case h_2 => cases h
  rename_i nl cl l
  simp only [List.mem_cons, List.not_mem_nil, or_false, Prod.mk.injEq, Bool.true_eq] at h
  obtain ⟨h1, rfl, rfl⟩ := h
  refine ⟨[[.fsl nl cl 5 l]], by simp, Splits.self _, fun ys hy => ?_⟩
  rw [List.mem_singleton] at hy
  subst hy
  unfold gLong longB
  have hlen : (evs l).length = l.length := List.length_map ..
  rw [hlen]
  by_cases hl : 50 < l.length
  · rw [decide_eq_true hl]
    exact ⟨noGd_of rfl, tab [], ltab [(9, 122, noL)], tab_nil, ltab_cons (by kernel_rfl) (fun p s e s' h => by cases h) ltab_nil, 30, _, Wk.refl _, (lo_none nl cl l).trans (bif_step (decide_eq_true (by omega)) rfl)⟩
  · rw [decide_eq_false hl, Bool.false_or]
    have q := lo_runs h1 (by omega) (nl := nl) (cl := cl)
    rcases lo_fold nl cl l l 0 0 with ⟨hv, m, hf⟩ | ⟨hv, m, j, hf⟩
    · rw [hf] at q
      rw [hv]
      have hls : LoopsOK Try.prog hint (acall Try.prog hint (ovrOf (tab []))) (ltab [(9, 122, LF 9 0 (oneF (loV nl cl l false 0 0) [] (.exit 0) (loV nl cl l false (m : Int) (l.length : Int)) []))]) := by
        refine ltab_cons (by kernel_rfl) (loopF_ok fun vs bx e vs' bx' hm => ?_) ltab_nil
        obtain ⟨rfl, rfl, rfl, rfl, rfl⟩ := oneF_mem hm
        exact q
      exact ⟨noGd_of rfl, tab [], _, tab_nil, hls, 30, _, Wk.refl _, (lo_no nl cl l m).trans (bif_stepF (decide_eq_false (by omega)) (bif_step sameS_t rfl))⟩
    · rw [hf] at q
      rw [hv]
      have hls : LoopsOK Try.prog hint (acall Try.prog hint (ovrOf (tab []))) (ltab [(9, 122, LF 9 0 (oneF (loV nl cl l false 0 0) [] .ret (loV nl cl l true (m : Int) (j : Int)) []))]) := by
        refine ltab_cons (by kernel_rfl) (loopF_ok fun vs bx e vs' bx' hm => ?_) ltab_nil
        obtain ⟨rfl, rfl, rfl, rfl, rfl⟩ := oneF_mem hm
        exact q
      exact ⟨noGd_of rfl, tab [], _, tab_nil, hls, 30, _, Wk.refl _, (lo_yes nl cl l m j).trans (bif_stepF (decide_eq_false (by omega)) (bif_step sameS_t rfl))⟩

/-! ### Alike -/
def alP (c : Nat → List IV → Nat → List IV → Bool) (g : Int → Int → Int → List IV → Int → Int → Int → List IV → Bool) : SpecF := fun us T => match us, T with
  | [.agg [.int .i64 k, .int .u32 h, .int .u32 p, .int .i64 a, .fsl nl cl z b], .agg [.int .i64 k', .int .u32 h', .int .u32 p', .int .i64 a', .fsl nl' cl' z' b']], [] => [(c z b z' b', .bool (g k h p b k' h' p' b'), [])]
  | _, _ => []
def cA (z : Nat) (b : List IV) (z' : Nat) (b' : List IV) : Bool := Nat.beq z 1 && okB b && Nat.beq z' 1 && okB b'
def gA (k h p : Int) (b : List IV) (k' h' p' : Int) (b' : List IV) : Bool := alike ⟨k, h, p, 0, toBytes b⟩ ⟨k', h', p', 0, toBytes b'⟩
theorem alike_known : Known Try.prog hint 20 (alP cA gA) := by
  refine known_of fits (spec := tab []) tab_nil loops_none ?_
  intro us T v T1 h
  unfold alP at h
  split at h
  case h_2 => cases h
  rename_i k h' p a nl cl z b k' hh' p' a' nl' cl' z' b'
  simp only [List.mem_cons, List.not_mem_nil, or_false, Prod.mk.injEq, Bool.true_eq, cA, Bool.and_eq_true] at h
  obtain ⟨⟨⟨⟨h1, h2⟩, h3⟩, h4⟩, rfl, rfl⟩ := h
  obtain rfl := Nat.eq_of_beq_eq_true h1
  obtain rfl := Nat.eq_of_beq_eq_true h3
  refine ⟨30, (alike_tree k h' p a k' hh' p' a' nl nl' cl cl' b b').trans (bif_step ?_ (bif_step ?_ ?_))⟩
  · rw [decide_eq_true (.inl rfl), okB_eq h2]
    exact isBytes_u8s _
  · rw [decide_eq_true (.inl rfl), okB_eq h4]
    exact isBytes_u8s _
  · congr 3
    unfold gA alike Ev.s Ev.t
    simp only [Prod.mk.injEq]
    cases hk : k == (1 : Int) <;> cases hk' : k' == (3 : Int) <;> simp
    by_cases c1 : h' = p' <;> by_cases c2 : p = hh' <;> by_cases c3 : toBytes b = toBytes b' <;> simp [c1, c2, c3]
end
end Go.Proofs.Ytgbddcdpbgaojaa
/- Matches told, and whether all have one: rounds and calls. It bears no condition. -/
-- BYTES bytsT
-- SUB (b0 : Bool)  => 
-- SUB (b0 : Bool) => 
-- SUB cstF b0 (.exit 0) (mtV => oneF (mtV (g (go l)) 0 0) [] (.exit 0) (mtV
-- SUB bif b0 then some (IV.int => bif sameS (mtV (g (go l)) 0 0) [] then some (IV.int
-- SUB cstF b0 (.exit 0) (pxV => oneF (pxV rows 0 (rows.length : Int) 0) [] (.exit 0) (pxV
-- SUB cstF b0 .ret (pxV => oneF (pxV rows 0 (rows.length : Int) 0) [] .ret (pxV
-- SUB bif b0 then some (IV.bool => bif sameS (pxV rows 0 (rows.length : Int) 0) [] then some (IV.bool
namespace Go.Proofs.Ytgbddcdpbgaojaa
open Go Go.Im
set_option linter.unusedVariables false
set_option linter.unusedSimpArgs false
/-! ### How many matches -/
abbrev mtV (rows : List IV) (n i : Int) : List IV := [.int .i64 n, .fsl none false 2 rows, .int .i64 i]
/-! ### Whether each has one -/
abbrev pxV (rows : List IV) (r n i : Int) : List IV := [.fsl none false 2 rows, .fn 30 [], .int .i64 r, .int .i64 n, .int .i64 i]
theorem px_in (rows : List IV) (r n i : Int) : Rd (tab []) 0 35 26 (Sx 35 (pxV rows r n i) []) = (bif decide (i < n) then bif decide ((2 : Nat) = (2 : Nat) ∧ (0 : Int) ≤ i ∧ i < (↑rows.length : Int)) then bif testAll (List.replicate (2 : Nat) [LT.i IntKind.i64]).flatten (0 : Nat) (nthD rows i.toNat).cells then bif decide (intOf (nthD (nthD rows i.toNat).cells (1 : Nat)) < (0 : Int)) then some (Ex.ret, Sx (35 : Nat) [IV.fsl none false (nat_lit 2) rows, IV.fn (nat_lit 30) [], IV.int .i64 i, IV.int .i64 n, IV.int .i64 i] []) else some (Ex.normal, Sx (35 : Nat) [IV.fsl none false (nat_lit 2) rows, IV.fn (nat_lit 30) [], IV.int .i64 r, IV.int .i64 n, IV.int .i64 (IntKind.i64.wrap (i + (1 : Int)))] []) else none else none else some (Ex.exit (nat_lit 0), Sx (35 : Nat) [IV.fsl none false (nat_lit 2) rows, IV.fn (nat_lit 30) [], IV.int .i64 r, IV.int .i64 n, IV.int .i64 i] [])) := by kernel_rfl
theorem px_no (rows : List IV) : Cb (tab []) (ltab [(35, 26, LF 35 0 (oneF (pxV rows 0 (rows.length : Int) 0) [] (.exit 0) (pxV rows 0 (rows.length : Int) (rows.length : Int)) []))]) 29 [.fsl none false 2 rows, .fn 30 []] [] = (bif sameS (pxV rows 0 (rows.length : Int) 0) [] then some (IV.bool false, []) else none) := by kernel_rfl
theorem px_yes (rows : List IV) (i : Int) : Cb (tab []) (ltab [(35, 26, LF 35 0 (oneF (pxV rows 0 (rows.length : Int) 0) [] .ret (pxV rows i (rows.length : Int) i) []))]) 29 [.fsl none false 2 rows, .fn 30 []] [] = (bif sameS (pxV rows 0 (rows.length : Int) 0) [] then some (IV.bool (decide (i ≥ (0 : Int))), []) else none) := by kernel_rfl
def pxP (c g : List IV → Bool) : SpecF := fun us T => match us, T with
  | [.fsl none false 2 l, .fn 30 []], [] => [(c l, .bool (g l), [])]
  | _, _ => []
theorem pr_tree (c : List IV → Bool) (g : List IV → List IV) (c' g' : List IV → Bool) (nl : Option Bool) (cl : Bool) (l : List IV) : C (tab [(11, matP c g), (29, pxP c' g')]) 19 [.fsl nl cl 5 l] = (bif c l then bif c' (g l) then some (IV.bool !g' (g l), []) else none else none) := by kernel_rfl
def matC (c1 c2 : List IV → Bool) : SpecF := fun us T => match us, T with
  | [.fsl nl cl 5 l], [] => (match l with
    | [_, _, _] => [(c1 l, .fsl none false 2 [.agg [.int .i64 1, .int .i64 0], .agg [.int .i64 2, .int .i64 (-1)]], [])]
    | [_, _] => [(c2 l, .fsl none false 2 [.agg [.int .i64 1, .int .i64 0]], [])]
    | _ => [])
  | _, _ => []
theorem alive_tree (c1 c2 : List IV → Bool) : callK Try.prog hint (tab [(11, matC c1 c2)]) (fun _ _ => none) 60 10 [] [] (fun v T => some (v, T)) = (bif c1 [IV.agg [IV.int .i64 (1 : Int), IV.int .u32 (2 : Int), IV.int .u32 (1 : Int), IV.int .i64 (0 : Int), IV.fsl (some false) false (1 : Nat) [IV.int .u8 (120 : Int)]], IV.agg [IV.int .i64 (3 : Int), IV.int .u32 (1 : Int), IV.int .u32 (2 : Int), IV.int .i64 (0 : Int), IV.fsl (some false) false (1 : Nat) [IV.int .u8 (120 : Int)]], IV.agg [IV.int .i64 (3 : Int), IV.int .u32 (1 : Int), IV.int .u32 (2 : Int), IV.int .i64 (0 : Int), IV.fsl (some false) false (1 : Nat) [IV.int .u8 (120 : Int)]]] then bif c1 [IV.agg [IV.int .i64 (1 : Int), IV.int .u32 (2 : Int), IV.int .u32 (1 : Int), IV.int .i64 (0 : Int), IV.fsl (some false) false (1 : Nat) [IV.int .u8 (120 : Int)]], IV.agg [IV.int .i64 (3 : Int), IV.int .u32 (1 : Int), IV.int .u32 (2 : Int), IV.int .i64 (0 : Int), IV.fsl (some false) false (1 : Nat) [IV.int .u8 (120 : Int)]], IV.agg [IV.int .i64 (3 : Int), IV.int .u32 (1 : Int), IV.int .u32 (2 : Int), IV.int .i64 (0 : Int), IV.fsl (some false) false (1 : Nat) [IV.int .u8 (120 : Int)]]] then bif c2 (List.take (2 : Nat) (List.drop (0 : Nat) [IV.agg [IV.int .i64 (1 : Int), IV.int .u32 (2 : Int), IV.int .u32 (1 : Int), IV.int .i64 (0 : Int), IV.fsl (some false) false (1 : Nat) [IV.int .u8 (120 : Int)]], IV.agg [IV.int .i64 (3 : Int), IV.int .u32 (1 : Int), IV.int .u32 (2 : Int), IV.int .i64 (0 : Int), IV.fsl (some false) false (1 : Nat) [IV.int .u8 (120 : Int)]], IV.agg [IV.int .i64 (3 : Int), IV.int .u32 (1 : Int), IV.int .u32 (2 : Int), IV.int .i64 (0 : Int), IV.fsl (some false) false (1 : Nat) [IV.int .u8 (120 : Int)]]])) then some (IV.bool true, []) else none else none else none) := by kernel_rfl
end Go.Proofs.Ytgbddcdpbgaojaa
/- AuditOnce, AuditMore, AuditAll: the laws' own rounds and calls. It bears no condition. -/
-- BYTES bytsV
-- SUB (b0 : Bool)  => 
-- SUB (b0 : Bool) => 
-- SUB cstF b0 (.exit 2) (onV => oneF (onV nl cl l rows i (.int .i64 0)) [] (.exit 2) (onV
-- SUB bif b0 then => bif sameS (onV nl cl l rows i (.int .i64 0)) [] then
namespace Go.Proofs.Ytgbddcdpbgaojaa
open Go Go.Im
set_option linter.unusedVariables false
set_option linter.unusedSimpArgs false
abbrev onV (nl : Option Bool) (cl : Bool) (l rows : List IV) (i : Int) (d : IV) : List IV := [.fsl nl cl 5 l, .bool false, .fsl none false 2 rows, .int .i64 i, d]
end Go.Proofs.Ytgbddcdpbgaojaa
/- AuditOnce and AuditMore: what is proved of the given program. It bears no condition. -/
namespace Go.Proofs.Ytgbddcdpbgaojaa
open Go Go.Im
set_option linter.unusedVariables false
set_option linter.unusedSimpArgs false
noncomputable section

/-! ### The fixed example -/
abbrev a1 : IV := .agg [.int .i64 1, .int .u32 2, .int .u32 1, .int .i64 0, .fsl (some false) false 1 [.int .u8 120]]
abbrev a2 : IV := .agg [.int .i64 3, .int .u32 1, .int .u32 2, .int .i64 0, .fsl (some false) false 1 [.int .u8 120]]
def cA3 (l : List IV) : Bool := @decide (l = [a1, a2, a2]) (Classical.propDecidable _)
def cA2 (l : List IV) : Bool := @decide (l = [a1, a2]) (Classical.propDecidable _)
theorem ex3 : cM [a1, a2, a2] = true ∧ gM [a1, a2, a2] = [.agg [.int .i64 1, .int .i64 0], .agg [.int .i64 2, .int .i64 (-1)]] := ⟨by kernel_rfl, by kernel_rfl⟩
theorem ex2 : cM [a1, a2] = true ∧ gM [a1, a2] = [.agg [.int .i64 1, .int .i64 0]] := ⟨by kernel_rfl, by kernel_rfl⟩
theorem matC_known : Known Try.prog hint 11 (matC cA3 cA2) := by
  intro f us T r T1 hr
  refine match_known f us T r T1 ?_
  simp only at hr ⊢
  split at hr
  case isFalse => cases hr
  rename_i hf
  rw [if_pos hf]
  obtain ⟨x, hF, e⟩ := Option.map_eq_some_iff.1 hr
  refine Option.map_eq_some_iff.2 ⟨x, ?_, e⟩
  have ht := List.find?_some hF
  have hm := List.mem_of_find?_eq_some hF
  unfold matC at hm
  split at hm
  case h_2 => cases hm
  rename_i nl cl l
  split at hm
  · rename_i x0 x1 x2
    rw [List.mem_singleton] at hm
    subst hm
    have hl : [x0, x1, x2] = [a1, a2, a2] := @of_decide_eq_true _ (Classical.propDecidable _) ht
    rw [hl]
    unfold matP
    simp only [List.find?_cons, ex3.1, ex3.2]
    have : cA3 [a1, a2, a2] = true := @decide_eq_true _ (Classical.propDecidable _) rfl
    rw [this]
  · rename_i x0 x1
    rw [List.mem_singleton] at hm
    subst hm
    have hl : [x0, x1] = [a1, a2] := @of_decide_eq_true _ (Classical.propDecidable _) ht
    rw [hl]
    unfold matP
    simp only [List.find?_cons, ex2.1, ex2.2]
    have : cA2 [a1, a2] = true := @decide_eq_true _ (Classical.propDecidable _) rfl
    rw [this]
  · cases hm
theorem alive_known : Known Try.prog hint 10 (constF (.bool true)) := by
  refine known_of fits (spec := tab [(11, matC cA3 cA2)]) (tab_cons matC_known tab_nil) loops_none ?_
  intro xs T v T1 h
  unfold constF at h
  split at h
  · simp only [List.mem_cons, List.not_mem_nil, or_false, Prod.mk.injEq] at h
    obtain ⟨_, rfl, rfl⟩ := h
    refine ⟨60, (alive_tree cA3 cA2).trans (bif_step ?_ (bif_step ?_ (bif_step ?_ rfl)))⟩
    · exact @decide_eq_true _ (Classical.propDecidable _) rfl
    · exact @decide_eq_true _ (Classical.propDecidable _) rfl
    · exact @decide_eq_true _ (Classical.propDecidable _) rfl
  · cases h

/-! ### Rows of matches -/
theorem cM_O {l : List IV} (h1 : l.all isEv = true) (h2 : l.length ≤ 1000) : cM (gO l) = true := by
  unfold cM gO
  rw [all_F (all_ok h1), List.length_map, List.length_map, decide_eq_true h2]; rfl
theorem gM_O (l : List IV) : gM (gO l) = (mat (evs l)).map ivM := by
  unfold gM gO
  show (mat (evs ((evs l).map evF))).map ivM = _
  rw [evs_F]
theorem nthM {out : List (Int × Int)} {i : Nat} (h : i < out.length) : nthD (out.map ivM) ((i : Int)).toNat = .agg [.int .i64 out[i].1, .int .i64 out[i].2] := by
  rw [nthD_at (by simpa using h), List.getElem_map]; rfl
theorem mat_len (l : List Ev) : (mat l).length ≤ l.length := out_len l

/-! ### How many matches -/
def cntS (n : Nat) (m : Int × Int) : Nat := if m.2 ≥ 0 then n + 1 else n
def cnt (out : List (Int × Int)) : Nat := out.foldl cntS 0
end
end Go.Proofs.Ytgbddcdpbgaojaa
/- AuditOnce and AuditMore at all arguments. It bears no condition. -/
namespace Go.Proofs.Ytgbddcdpbgaojaa
open Go Go.Im
set_option linter.unusedVariables false
set_option linter.unusedSimpArgs false
noncomputable section

/-! ### The arguments -/
def types : List TypeId := [2, 3, 5, 22, 23, 30, 51, 52, 54, 69]
theorem cells54 : Try.prog.cellsOf 54 = 5 := by kernel_rfl
theorem bytes54 : Try.prog.bytesOf 54 = 48 := by kernel_rfl
theorem cells5 : Try.prog.cellsOf 5 = 1 := by kernel_rfl
theorem bytes5 : Try.prog.bytesOf 5 = 1 := by kernel_rfl
theorem ty52 {n : Nat} {l : List IV} (h : Ty Try.prog n 52 l) : ∃ nl cl es, l = [.fsl (some nl) cl 1 es] ∧ okB es = true ∧ es.length ≤ 140737488351232 := by
  obtain ⟨m, nl, cl, es, rfl, rfl, _, e1, _, e3⟩ := ty_slice und52 h
  rw [bytes5, reach_val] at e1
  rw [cells5]
  refine ⟨nl, cl, es, rfl, ?_, by omega⟩
  unfold okB
  rw [List.all_eq_true]
  intro x hx
  obtain ⟨cs, hq, _, ht⟩ := e3 x hx
  obtain ⟨i, rfl, h1, h2⟩ := ty_int und5 ht
  have : x = .int .u8 i := by
    simp only [pack, isAggT, und5, Option.map_some] at hq
    exact (Option.some.inj hq).symm
  subst this
  obtain ⟨ra, rb⟩ := Go.Im.range_u8
  simp only [decide_eq_true_eq]
  omega
theorem und51 : Try.prog.underlying 51 = some (.int .u32) := by kernel_rfl
theorem ty54 {n : Nat} {l : List IV} (h : Ty Try.prog n 54 l) : ∃ k hh p a nl cl bs, l = [.int .i64 k, .int .u32 hh, .int .u32 p, .int .i64 a, .fsl (some nl) cl 1 bs] ∧ isEv (.agg [.int .i64 k, .int .u32 hh, .int .u32 p, .int .i64 a, .fsl (some nl) cl 1 bs]) = true := by
  obtain ⟨m, _, h⟩ := ty_struct Try.underlying54 h
  simp only [FieldsT] at h
  obtain ⟨c1, r1, rfl, h1, c2, r2, rfl, h2, c3, r3, rfl, h3, c4, r4, rfl, h4, c5, r5, rfl, h5, rfl⟩ := h
  obtain ⟨k, rfl, _⟩ := ty_int Try.underlying3 h1
  obtain ⟨hh, rfl, q1, q2⟩ := ty_int und51 h2
  obtain ⟨p, rfl, q3, q4⟩ := ty_int und51 h3
  obtain ⟨a, rfl, _⟩ := ty_int Try.underlying2 h4
  obtain ⟨nl, cl, bs, rfl, o1, o2⟩ := ty52 h5
  refine ⟨k, hh, p, a, nl, cl, bs, rfl, ?_⟩
  obtain ⟨ra, rb⟩ := Go.Im.range_u32
  unfold isEv
  simp only [Bool.and_eq_true, decide_eq_true_eq]
  exact ⟨⟨⟨by omega, by omega⟩, o1⟩, o2⟩
theorem arg22 {x : IV} (h : ArgT Try.prog 22 x) : ∃ nl cl l, x = .fsl nl cl 5 l ∧ l.all isEv = true ∧ l.length ≤ 140737488351232 := by
  obtain ⟨n, l, h1, h2, _⟩ := h
  obtain ⟨m, nl, cl, es, rfl, rfl, _, e1, e2, e3⟩ := ty_slice Try.underlying22 h1
  rw [bytes54, reach_val] at e1
  have hx : x = .fsl (some nl) cl (Try.prog.cellsOf 54) es := by
    simp only [pack, isAggT, Try.underlying22, Option.map_some] at h2
    exact (Option.some.inj h2).symm
  rw [cells54] at hx
  refine ⟨some nl, cl, es, hx, ?_, by omega⟩
  rw [List.all_eq_true]
  intro y hy
  obtain ⟨cs, hq, _, ht⟩ := e3 y hy
  obtain ⟨k, hh, p, a, nl, cl, bs, rfl, ho⟩ := ty54 ht
  rw [pack_struct Try.underlying54 hq cells54.symm]
  exact ho
/-! ### AuditOnce -/
theorem cO_of {l : List IV} (h1 : l.all isEv = true) (h2 : l.length ≤ 1000) : cO l = true := by unfold cO; rw [h1, decide_eq_true h2]; rfl
end
end Go.Proofs.Ytgbddcdpbgaojaa
/- AuditMore: what is proved of the given program. It bears no condition. -/
namespace Go.Proofs.Ytgbddcdpbgaojaa
open Go Go.Im
set_option linter.unusedVariables false
set_option linter.unusedSimpArgs false
noncomputable section

end
end Go.Proofs.Ytgbddcdpbgaojaa
/- AuditAll: the law's own rounds and calls, and whether all have a match. It bears no condition. -/
-- BYTES bytsA
-- SUB (b0 : Bool)  => 
-- SUB (b0 : Bool) => 
-- SUB cstF b0 (.exit 2) => oneF (alV nl cl l nl' cl' gs false n i (.int .i64 0)) [] (.exit 2)
-- SUB cstF b0 .ret => oneF (alV nl cl l nl' cl' gs false n i (.int .i64 0)) [] .ret
-- SUB bif b0 then => bif sameS (alV nl cl l nl' cl' gs false n i (.int .i64 0)) [] then
namespace Go.Proofs.Ytgbddcdpbgaojaa
open Go Go.Im
set_option linter.unusedVariables false
set_option linter.unusedSimpArgs false
abbrev alV (nl : Option Bool) (cl : Bool) (l : List IV) (nl' : Option Bool) (cl' : Bool) (gs : List IV) (r : Bool) (n i : Int) (d : IV) : List IV := [.fsl nl cl 5 l, .fsl nl' cl' 1 gs, .bool r, .int .i64 n, .int .i64 i, d]
end Go.Proofs.Ytgbddcdpbgaojaa
/- Whoever gives each event Told a match of its own: Match gives one to each, in plain words. It bears no condition. -/
namespace Go.Proofs.Ytgbddcdpbgaojaa
open Go Go.Im
set_option linter.unusedVariables false
set_option linter.unusedSimpArgs false
noncomputable section

def keyAt (es : List Ev) (g : Int) : Option Key := (es[g.toNat]?).map Ev.s
/-- Each told one of a front has a match of its own: those that were given. -/
structure Giv (es : List Ev) (i : Nat) (U : List Int) : Prop where
  nodup : U.Nodup
  each : ∀ g ∈ U, 0 ≤ g ∧ g < (i : Int) ∧ ∃ a, es[g.toNat]? = some a ∧ a.kind = 1
  all : ∀ m ∈ (ms (es.take i)).out, 0 ≤ m.2
  few : ∀ key, ((ms (es.take i)).W key).length + (U.filter fun g => decide (keyAt es g = some key)).length = (sel (es.take i) [] key).length
  cnt_ : cnt (ms (es.take i)).out = U.length
end
end Go.Proofs.Ytgbddcdpbgaojaa
/- AuditAll: the law's own calls, and whether all have a match. It bears no condition. -/
-- BYTES bytsB
-- SUB (b1 : Bool)  => 
-- SUB (b1 : Bool) => 
-- SUB cstF b1 => oneF (alV nl cl l nl' cl' gs false 0 0 .undef) []
-- SUB bif b1 then => bif sameS (alV nl cl l nl' cl' gs false 0 0 .undef) [] then
namespace Go.Proofs.Ytgbddcdpbgaojaa
open Go Go.Im
set_option linter.unusedVariables false
set_option linter.unusedSimpArgs false
end Go.Proofs.Ytgbddcdpbgaojaa
/- AuditAll: what is proved of the given program. It bears no condition. -/
namespace Go.Proofs.Ytgbddcdpbgaojaa
open Go Go.Im
set_option linter.unusedVariables false
set_option linter.unusedSimpArgs false
noncomputable section

/-! ### Whether all have a match -/
def pxB (out : List (Int × Int)) : Bool := out.any fun m => decide (m.2 < 0)
def pxStep (out : List (Int × Int)) (i : Nat) (_ : Unit) (m : Int × Int) : Unit ⊕ (Ex × St) :=
  if m.2 < 0 then .inr (.ret, Sx 35 (pxV (out.map ivM) (i : Int) (out.length : Int) (i : Int)) []) else .inl ()
theorem px_fold (O : List (Int × Int)) : ∀ (out : List (Int × Int)) (i : Nat), (pxB out = false ∧ foldE (pxStep O) i () out = .inl ()) ∨ (pxB out = true ∧ ∃ j : Nat, foldE (pxStep O) i () out = .inr (.ret, Sx 35 (pxV (O.map ivM) (j : Int) (O.length : Int) (j : Int)) []))
  | [], i => .inl ⟨rfl, rfl⟩
  | m :: out, i => by
    have ih := px_fold O out (i + 1)
    unfold foldE
    have e0 : pxB (m :: out) = (decide (m.2 < 0) || pxB out) := rfl
    rw [e0]
    by_cases h : m.2 < 0
    · right
      rw [decide_eq_true h]
      refine ⟨rfl, i, ?_⟩
      simp only [pxStep]
      rw [if_pos h]
    · rw [decide_eq_false h, Bool.false_or]
      have e1 : pxStep O i () m = .inl () := by unfold pxStep; rw [if_neg h]
      rw [e1]
      exact ih
theorem px_runs {out : List (Int × Int)} (hl : out.length ≤ 1000) :
    EachOK Try.prog hint (acall Try.prog hint (ovrOf (tab []))) 0 (hint.kp 35) (loopAt Try.prog 35 26) (Sx 35 (pxV (out.map ivM) 0 (out.length : Int) ((0 : Nat) : Int)) []) (.exit 0)
      (fun _ : Unit => Sx 35 (pxV (out.map ivM) 0 (out.length : Int) (out.length : Int)) []) (foldE (pxStep out) 0 () out) := by
  refine runs_each (X := Unit) (l := out) (n := 30) (ls := fun _ _ => none) loops_none inner0 (fun i _ => Sx 35 (pxV (out.map ivM) 0 (out.length : Int) (i : Int)) []) _
    (fun _ _ => True) (by simp) ?_ ?_ out.length 0 () (by omega) trivial
  · intro i u hi _
    have ht := px_in (out.map ivM) 0 out.length i
    have q1 : Im.intOf (nthD (IV.agg [.int .i64 out[i].1, .int .i64 out[i].2]).cells 1) = out[i].2 := Eq.trans rfl rfl
    rw [nthM hi, q1, List.length_map, wadd1 (by omega)] at ht
    replace ht := fun r k => ht.trans (bif_step (r := r) (decide_eq_true (by omega)) (bif_step (decide_eq_true ⟨rfl, by omega, by omega⟩) (bif_step rfl k)))
    unfold pxStep
    by_cases h : out[i].2 < 0
    · exact .inr ⟨_, _, by rw [if_pos h], by simp, ht _ (bif_step (decide_eq_true h) rfl)⟩
    · exact .inl ⟨(), by rw [if_neg h], ht _ (bif_stepF (decide_eq_false h) rfl), trivial⟩
  · intro _ _
    have ht := px_in (out.map ivM) 0 out.length out.length
    exact ht.trans (bif_stepF (decide_eq_false (by omega)) rfl)
def outOf (x : IV) : Int × Int := (Im.intOf (nthD x.cells 0), Im.intOf (nthD x.cells 1))
theorem outOf_iv (out : List (Int × Int)) : (out.map ivM).map outOf = out := by
  rw [List.map_map]
  exact (List.map_congr_left fun m _ => rfl).trans (List.map_id out)
def cX (rows : List IV) : Bool := @decide (rows = (rows.map outOf).map ivM ∧ rows.length ≤ 1000) (Classical.propDecidable _)
def gX (rows : List IV) : Bool := pxB (rows.map outOf)
theorem px_known : Known Try.prog hint 29 (pxP cX gX) := by
  refine known_alt fits fun us T v T1 h => ?_
  unfold pxP at h
  split at h
  case h_2 => cases h
  rename_i rows
  simp only [List.mem_cons, List.not_mem_nil, or_false, Prod.mk.injEq, Bool.true_eq, cX, decide_eq_true_eq] at h
  obtain ⟨⟨h1, h2⟩, rfl, rfl⟩ := h
  refine ⟨[[.fsl none false 2 rows, .fn 30 []]], by simp, Splits.self _, fun ys hy => ?_⟩
  rw [List.mem_singleton] at hy
  subst hy
  unfold gX
  generalize rows.map outOf = out at *
  subst h1
  rw [List.length_map] at h2
  have q := px_runs h2
  have hlen : ((out.map ivM).length : Int) = (out.length : Int) := by rw [List.length_map]
  rcases px_fold out out 0 with ⟨hv, hf⟩ | ⟨hv, j, hf⟩
  · rw [hf] at q
    rw [hv]
    have hls : LoopsOK Try.prog hint (acall Try.prog hint (ovrOf (tab []))) (ltab [(35, 26, LF 35 0 (oneF (pxV (out.map ivM) 0 ((out.map ivM).length : Int) 0) [] (.exit 0) (pxV (out.map ivM) 0 ((out.map ivM).length : Int) ((out.map ivM).length : Int)) []))]) := by
      refine ltab_cons (by kernel_rfl) (loopF_ok fun vs bx e vs' bx' hm => ?_) ltab_nil
      obtain ⟨rfl, rfl, rfl, rfl, rfl⟩ := oneF_mem hm
      rw [hlen]
      exact q
    exact ⟨noGd_of rfl, tab [], _, tab_nil, hls, 30, _, Wk.refl _, (px_no (out.map ivM)).trans (bif_step sameS_t rfl)⟩
  · rw [hf] at q
    rw [hv]
    have hls : LoopsOK Try.prog hint (acall Try.prog hint (ovrOf (tab []))) (ltab [(35, 26, LF 35 0 (oneF (pxV (out.map ivM) 0 ((out.map ivM).length : Int) 0) [] .ret (pxV (out.map ivM) (j : Int) ((out.map ivM).length : Int) (j : Int)) []))]) := by
      refine ltab_cons (by kernel_rfl) (loopF_ok fun vs bx e vs' bx' hm => ?_) ltab_nil
      obtain ⟨rfl, rfl, rfl, rfl, rfl⟩ := oneF_mem hm
      rw [hlen]
      exact q
    refine ⟨noGd_of rfl, tab [], _, tab_nil, hls, 30, _, Wk.refl _, (px_yes (out.map ivM) j).trans (bif_step sameS_t ?_)⟩
    rw [decide_eq_true (show (j : Int) ≥ 0 by omega)]
def gP (l : List IV) : Bool := !pxB (mat (evs l))
theorem proper_known : Known Try.prog hint 19 (lgP cM gP) := by
  refine known_alt fits fun us T v T1 h => ?_
  unfold lgP at h
  split at h
  case h_2 => cases h
  rename_i nl cl l
  simp only [List.mem_cons, List.not_mem_nil, or_false, Prod.mk.injEq, Bool.true_eq] at h
  obtain ⟨h1, rfl, rfl⟩ := h
  refine ⟨[[.fsl nl cl 5 l]], by simp, Splits.self _, fun ys hy => ?_⟩
  rw [List.mem_singleton] at hy
  subst hy
  have hc := h1
  unfold cM at hc
  simp only [Bool.and_eq_true, decide_eq_true_eq] at hc
  have hml := mat_len (evs l)
  rw [List.length_map] at hml
  have hX : cX (gM l) = true := by
    refine @decide_eq_true _ (Classical.propDecidable _) ⟨?_, ?_⟩
    · unfold gM; rw [outOf_iv]
    · unfold gM; rw [List.length_map]; exact Nat.le_trans hml hc.1
  refine ⟨noGd_of rfl, tab [(11, matP cM gM), (29, pxP cX gX)], _, tab_cons match_known (tab_cons px_known tab_nil), loops_none, 30, _, Wk.refl _, (pr_tree cM gM cX gX nl cl l).trans (bif_step h1 (bif_step hX ?_))⟩
  unfold gX gP gM
  rw [outOf_iv]

end
end Go.Proofs.Ytgbddcdpbgaojaa
/- AuditAll at all arguments. It bears no condition. -/
namespace Go.Proofs.Ytgbddcdpbgaojaa
open Go Go.Im
set_option linter.unusedVariables false
set_option linter.unusedSimpArgs false
noncomputable section

theorem cells3 : Try.prog.cellsOf 3 = 1 := by kernel_rfl
end
end Go.Proofs.Ytgbddcdpbgaojaa
