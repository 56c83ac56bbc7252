/- Match of the program, as the ideal machine's contract. It bears no condition. -/
import Derived.Test.YtgbddcdpbgaojaaAuM
import Derived.Test.YtgbddcdpbgaojaaAuBase
namespace Go.Proofs.Ytgbddcdpbgaojaa
open Go Go.Im
set_option linter.unusedVariables false
set_option linter.unusedSimpArgs false

def isEv (x : IV) : Bool := match x with
  | .agg [.int .i64 _, .int .u32 h, .int .u32 p, .int .i64 _, .fsl _ _ 1 bs] => decide (0 ≤ h ∧ h < 4294967296) && decide (0 ≤ p ∧ p < 4294967296) && okB bs && decide (bs.length ≤ 140737488351232)
  | _ => false
def evOf (x : IV) : Ev := match x with
  | .agg [.int .i64 k, .int .u32 h, .int .u32 p, .int .i64 a, .fsl _ _ 1 bs] => ⟨k, h, p, a, toBytes bs⟩
  | _ => ⟨0, 0, 0, 0, []⟩
theorem isEv_iff {x : IV} (hx : isEv x = true) : ∃ nl cl, x = .agg [.int .i64 (evOf x).kind, .int .u32 (evOf x).host, .int .u32 (evOf x).peer, .int .i64 (evOf x).at_, .fsl nl cl 1 (u8s (evOf x).bytes)] ∧
    (0 ≤ (evOf x).host ∧ (evOf x).host < 4294967296) ∧ (0 ≤ (evOf x).peer ∧ (evOf x).peer < 4294967296) ∧ (evOf x).bytes.length ≤ 140737488351232 := by
  unfold isEv at hx
  split at hx
  · rename_i k h p a nl cl bs
    simp only [Bool.and_eq_true, decide_eq_true_eq] at hx
    obtain ⟨⟨⟨h1, h2⟩, h3⟩, h4⟩ := hx
    have e := okB_eq h3
    refine ⟨nl, cl, ?_, h1, h2, ?_⟩
    · simp only [evOf]
      rw [← e]
    · simp only [evOf]
      rw [e, u8s_len] at h4
      exact h4
  · cases hx
/-! ### What lies in the memory -/
theorem rep_at {ok : Nat → Prop} {w : World} {e g : Nat} : ∀ (l : List IV) (o : Nat), RepEs ok w e g o l → ∀ k (h : k < l.length), RepEl ok w e g (o + k * e) l[k]
  | [], _, _, k, h => by simp at h
  | x :: l, o, hr, k, h => by
    rw [RepEs_cons] at hr
    cases k with
    | zero => simpa using hr.1
    | succ k =>
      have ih := rep_at l (o + e) hr.2 k (by simpa using h)
      rw [show o + (k + 1) * e = o + e + k * e by rw [Nat.add_mul]; omega]
      exact ih
theorem und9 : Try.prog.underlying 9 = some .string := by kernel_rfl
theorem und52 : Try.prog.underlying 52 = some (.slice 5) := by kernel_rfl
theorem und5 : Try.prog.underlying 5 = some (.int .u8) := by kernel_rfl
theorem bytes_str (b : List UInt8) : ((b.map fun (c : UInt8) => (c.toNat : Int)).map fun (n : Int) => UInt8.ofNat n.toNat) = b := by
  rw [List.map_map]
  exact (List.map_congr_left fun x _ => by simp).trans (List.map_id b)
theorem conv_at {ok : Nat → Prop} {w W : World} (hok : ∀ g, ok g → g < w.heap.size) (hW : ∀ g, g < w.heap.size → W.heap[g]? = w.heap[g]?) {A : Option Addr} {c : Nat} {b : List UInt8}
    (h : (u8s b) = [] ∨ ∃ g o, A = some ⟨g, o, none⟩ ∧ ok g ∧ RepEs ok w 1 g o (u8s b)) : (convert 52 9 (.slice A (u8s b).length c)).run Try.prog W = .ok (.string (bsOf b)) W := by
  rcases h with h | ⟨g, o, rfl, hg, hr⟩
  · have hb : b = [] := u8s_nil_iff.1 h
    subst hb
    cases A with
    | none => exact run_convert_bytes_nil (P := Try.prog) W 52 5 und52 und5 0 c 9 und9
    | some A =>
      obtain ⟨g, o', sp⟩ := A
      show (convert 52 9 (.slice (some ⟨g, o', sp⟩) 0 c)).run Try.prog W = _
      rw [run_convert_bytes_string W 52 9 5 _ _ c und52 und5 und9]
      exact run_bytesToString (P := Try.prog) W ⟨g, o', sp⟩ 0 c [] (by simp [loadCells, loadCellsFrom])
  · have hlt := hok g hg
    have key := run_convert_bytes_arg (P := Try.prog) W 52 5 und52 und5 g o (u8s b).length c (b.map fun (c : UInt8) => (c.toNat : Int)) (by simp [u8s_len]) (fun i hi => by
      have hi' : i < b.length := by rw [u8s_len] at hi; exact hi
      have := rep_at _ _ hr i (by rw [u8s_len]; exact hi')
      have hx : (u8s b)[i]'(by rw [u8s_len]; exact hi') = .int .u8 ((b[i]).toNat : Int) := by simp [u8s]
      rw [hx] at this
      obtain ⟨_, h2⟩ := this
      simp only [IV.cells, RepCs, RepC, and_true, Nat.mul_one] at h2
      obtain ⟨_, v, h3, rfl⟩ := h2
      rw [← cell_of_heap (hW g hlt)] at h3
      rw [h3]
      simp [List.getD, hi']) 9 und9
    rw [key]
    have e : strOfNums (b.map fun (c : UInt8) => (c.toNat : Int)) = bsOf b := by
      unfold strOfNums bsOf
      rw [bytes_str]
    rw [e]
theorem ev_at {ok : Nat → Prop} {w : World} (hok : ∀ g, ok g → g < w.heap.size) {g o : Nat} {x : IV} (hx : isEv x = true) (h : RepEl ok w 5 g o x) : ∃ A m c, EvAt w g o (evOf x) A m c := by
  obtain ⟨nl, cl, hxe, hh, hp, hb⟩ := isEv_iff hx
  generalize evOf x = e at *
  subst hxe
  obtain ⟨_, h⟩ := h
  simp only [IV.cells, RepCs, RepC, and_true] at h
  obtain ⟨⟨_, v0, c0, rfl⟩, ⟨_, v1, c1, rfl⟩, ⟨_, v2, c2, rfl⟩, ⟨_, v3, c3, rfl⟩, ⟨_, v4, c4, A, c, rfl, _, _, _, _, hr⟩⟩ := h
  refine ⟨A, (u8s e.bytes).length, c, ⟨c0, c1, c2, c3, c4, fun W hW => conv_at hok hW hr, hh, hp, ?_⟩⟩
  unfold bsOf maxLen
  show e.bytes.toArray.size ≤ _
  simp
  omega

/-! ### The contract -/
def matP (c : List IV → Bool) (g : List IV → List IV) : SpecF := fun us T => match us, T with
  | [.fsl nl cl 5 l], [] => [(c l, .fsl none false 2 (g l), [])]
  | _, _ => []
def ivM (m : Int × Int) : IV := .agg [.int .i64 m.1, .int .i64 m.2]
def cM (l : List IV) : Bool := decide (l.length ≤ 1000) && l.all isEv
def gM (l : List IV) : List IV := (mat (l.map evOf)).map ivM
theorem rows_rep {ok : Nat → Prop} {w : World} {g : Nat} {cur : Array Value} {ty : TypeId} (hh : w.heap[g]? = some (.cells cur ty (0, 0))) : ∀ (out : List (Int × Int)) (o : Nat), (∀ j (h : j < (cellsO out).length), cur[o + j]? = some (cellsO out)[j]) → RepEs ok w 2 g o (out.map ivM)
  | [], _, _ => by simp [RepEs]
  | m :: out, o, h => by
    rw [List.map_cons, RepEs_cons]
    have hc : cellsO (m :: out) = .int .i64 m.1 :: .int .i64 m.2 :: cellsO out := rfl
    have h0 := h 0 (by rw [hc]; simp)
    have h1 := h 1 (by rw [hc]; simp)
    simp only [hc, List.getElem_cons_zero, List.getElem_cons_succ, Nat.add_zero] at h0 h1
    refine ⟨⟨rfl, ?_⟩, rows_rep hh out (o + 2) fun j hj => ?_⟩
    · simp only [ivM, IV.cells, RepCs, RepC, and_true]
      exact ⟨⟨rfl, _, by simpa [World.cell?, hh] using h0, rfl⟩, rfl, _, by simpa [World.cell?, hh] using h1, rfl⟩
    · have := h (j + 2) (by rw [hc]; simp; omega)
      rw [show o + (j + 2) = o + 2 + j by omega] at this
      simpa [hc] using this
theorem pre_map (l : List IV) (n : Nat) (h : n = l.length) : pre (fun k => evOf (l.getD k .undef)) n = l.map evOf := by
  subst h
  unfold pre
  refine List.ext_getElem (by simp) fun i h1 h2 => ?_
  have : i < l.length := by simpa using h2
  simp [this]
theorem match_known : Known Try.prog hint 11 (matP cM gM) := by
  intro f xs T r T1 hr
  simp only at hr
  split at hr
  case isFalse => cases hr
  rename_i hf
  subst hf
  refine ⟨⟨_, Try.func11, by decide, rfl⟩, ?_⟩
  intro Γ w vs hi hT hgl hrep hng
  obtain ⟨⟨t, v, T2⟩, hF, e⟩ := Option.map_eq_some_iff.1 hr
  cases e
  have ht := List.find?_some hF
  have hm := List.mem_of_find?_eq_some hF
  simp only at ht
  subst ht
  unfold matP at hm
  split at hm
  case h_2 => cases hm
  rename_i nl cl l
  simp only [List.mem_cons, List.not_mem_nil, or_false, Prod.mk.injEq, Bool.true_eq, cM, Bool.and_eq_true, decide_eq_true_eq] at hm
  obtain ⟨⟨hlen, hall⟩, rfl, rfl⟩ := hm
  simp only [RepL] at hrep
  obtain ⟨v1, us, rfl, hv1, rfl⟩ := hrep
  simp only [Rep, RepC] at hv1
  obtain ⟨A, c, rfl, _, _, _, _, hlies⟩ := hv1
  have hgoal : ∀ e' w', (∃ v, e' = Ending.returned v ∧ MInv w (fun k => evOf (l.getD k .undef)) w' l.length v) → ∃ v Γ', e' = Ending.returned v ∧ Γ'.T = [] ∧ Fr ([] : List Blk).length Γ w Γ' w' ∧ Rep Γ' w' (.fsl none false 2 (gM l)) v := by
    rintro e' w' ⟨v, rfl, hM⟩
    have hout := hM.out
    have hbl := hM.below
    rw [pre_map l _ rfl] at hout
    have hρ : Γ.ρ = [] := List.length_eq_zero_iff.1 (by rw [hi.len, hT]; rfl)
    refine ⟨v, ⟨fun g => Γ.ok g ∨ (w.heap.size ≤ g ∧ g < w'.heap.size), [], []⟩, rfl, rfl, ⟨⟨rfl, ?_, ?_, ?_, ?_, ?_⟩, ⟨fun g r h => ⟨r, ?_, Stat.refl r⟩, hbl.os, hbl.tape, hbl.output, hbl.size, fun g hg _ => hbl.block g hg⟩, ?_, ?_, ?_, fun g hg => ⟨.inl hg, hbl.block g (hi.okb g hg)⟩, Nat.zero_le _, ?_, ?_, ?_⟩, ?_⟩
    · rintro g (hg | hg)
      · exact Nat.lt_of_lt_of_le (hi.okb g hg) hbl.size
      · exact hg.2
    · intro b fz cs h; simp at h
    · intro b ver fz e l h; simp at h
    · intro b j h; simp at h
    · intro b b' g k k' h; simp at h
    · rw [hbl.block g (Array.getElem?_eq_some_iff.1 h).1]; exact h
    · rintro g ⟨b, k, h, _⟩; simp at h
    · rintro g (hg | hg)
      · exact .inl hg
      · exact .inr (.inr hg.1)
    · rintro g ⟨b, k, h, _⟩; simp at h
    · intro b fz cs _ h; simp at h
    · intro b ver fz e l _ h; simp at h
    · intro b j _ h; simp at h
    · simp only [Rep, RepC]
      rcases hout.2 with ⟨rfl, h0⟩ | ⟨g, cap, cur, rfl, hb, hg, hn, hc, hs, ht⟩
      · have : gM l = [] := by
          unfold gM mat
          rw [List.length_eq_zero_iff.1 h0]; rfl
        rw [this]
        exact ⟨none, 0, rfl, Nat.le_refl _, (fun h => by cases h), (fun h => by cases h), (fun h => by cases h), .inl rfl⟩
      · refine ⟨some ⟨g, 0, none⟩, cap, by unfold gM mat; simp, by unfold gM mat; simpa using hn, (fun h => by cases h), (fun h => by cases h), (fun h => by cases h), .inr ⟨g, 0, rfl, .inr ⟨by omega, (Array.getElem?_eq_some_iff.1 hg).1⟩, ?_⟩⟩
        unfold gM mat
        refine rows_rep hg _ 0 fun j hj => ?_
        have hcl : (cellsO (ms (l.map evOf)).out).length = (ms (l.map evOf)).out.length * 2 := hout.1
        have : (cur.toList.take ((ms (l.map evOf)).out.length * 2))[j]? = (cellsO (ms (l.map evOf)).out)[j]? := by rw [ht]
        rw [List.getElem?_take, if_pos (by omega), List.getElem?_eq_getElem hj] at this
        simpa using this
  rcases hlies with rfl | ⟨g, o, rfl, hok, hr⟩
  · exact (match_none A c w _).mono hgoal
  · refine (match_any g o l.length c w (fun k => evOf (l.getD k .undef)) hlen (hi.okb g hok) fun k hk => ?_).mono hgoal
    have h1 := rep_at l o hr k hk
    have h2 : l.getD k .undef = l[k] := by simp [List.getD, hk]
    rw [h2]
    exact ev_at hi.okb (List.all_eq_true.1 hall _ (List.getElem_mem hk)) h1
end Go.Proofs.Ytgbddcdpbgaojaa
