/- An ideal machine for the model's programs: its values are trees, its operations are told by plain functions; what it answers the model's machine does (part 2). It bears no condition. -/
import Derived.Test.YtolpgbgmldpneaaIm1
import Derived.Laws.CopyRow
import Derived.Laws.IdiomStrings
import Derived.Great.BuildSlice
import Derived.Laws.Small
import Derived.RangeFuncIn
import Derived.RangeFuncRecord
import Derived.RangeFuncLeaves
import Derived.OrdersIn
import Derived.CallsIn
namespace Go.Im
open Go
set_option linter.unusedVariables false
set_option linter.unusedSimpArgs false
set_option linter.unnecessarySimpa false
set_option linter.unusedSectionVars false

/-! ### Lists -/
theorem lsr_length {α : Type} : ∀ (xs l : List α) (i : Nat), (listSetRange l i xs).length = l.length
  | [], l, i => rfl
  | x :: xs, l, i => by rw [listSetRange, lsr_length xs]; simp

theorem lsr_eq {α : Type} : ∀ (xs l : List α) (i : Nat), i + xs.length ≤ l.length → listSetRange l i xs = l.take i ++ xs ++ l.drop (i + xs.length)
  | [], l, i, h => by simp [listSetRange]
  | x :: xs, l, i, h => by
    simp only [List.length_cons] at h
    rw [listSetRange, lsr_eq xs _ _ (by simp; omega)]
    have h1 : (l.set i x).take (i + 1) = l.take i ++ [x] := by
      rw [List.take_add_one, List.take_set_of_le (Nat.le_refl _), List.getElem?_set_self (by omega)]
      rfl
    have h2 : (l.set i x).drop (i + 1 + xs.length) = l.drop (i + (xs.length + 1)) := by
      rw [List.drop_set_of_lt (by omega)]
      congr 1
      omega
    rw [h1, h2]
    simp

theorem lsr_left {α : Type} {xs a b : List α} {i : Nat} (h : i + xs.length ≤ a.length) : listSetRange (a ++ b) i xs = listSetRange a i xs ++ b := by
  rw [lsr_eq _ _ _ (by simp; omega), lsr_eq _ _ _ h, List.take_append_of_le_length (by omega), List.drop_append_of_le_length h]
  simp

theorem lsr_right {α : Type} {xs a b : List α} {i : Nat} (h : i + xs.length ≤ b.length) : listSetRange (a ++ b) (a.length + i) xs = a ++ listSetRange b i xs := by
  rw [lsr_eq _ _ _ (by simp; omega), lsr_eq _ _ _ h]
  have h1 : (a ++ b).take (a.length + i) = a ++ b.take i := by rw [List.take_append, List.take_of_length_le (by omega)]; congr 2; omega
  have h2 : (a ++ b).drop (a.length + i + xs.length) = b.drop (i + xs.length) := by
    rw [show a.length + i + xs.length = a.length + (i + xs.length) by omega, List.drop_append]
    simp [List.drop_eq_nil_iff]
  rw [h1, h2]
  simp

/-! ### Cells -/
theorem leaf_one {Γ : Cx} {w : World} {x : IV} {v : Value} (h : leaf x = true) (hr : Rep Γ w x v) : v.oneCell' = true := by
  cases x with
  | undef => simp [leaf] at h
  | agg => simp [leaf] at h
  | tup => simp [leaf] at h
  | gd => simp [leaf] at h
  | fsl => simp only [Rep, RepC] at hr; obtain ⟨A, c, e, _⟩ := hr; rw [e]; rfl
  | fp => simp only [Rep, RepC] at hr; obtain ⟨A, c, e, _⟩ := hr; rw [e]; rfl
  | fn => simp only [Rep] at hr; obtain ⟨vs, e, _⟩ := hr; rw [e]; rfl
  | osl => exact hr.2.1
  | vsl => exact hr.2.1
  | vsv => exact hr.2.1
  | ep => exact hr.2.1
  | ptr => exact hr.2.1
  | yf => simp [leaf] at h
  | _ => simp only [Rep] at hr; rw [hr]; rfl

theorem leaves_one {Γ : Cx} {w : World} : ∀ {l : List IV} {vs : List Value}, cellsOK l = true → RepL Γ w l vs → ∀ u ∈ vs, u.oneCell' = true
  | [], vs, _, hr => by simp only [RepL] at hr; subst hr; simp
  | x :: xs, _, h, hr => by
    simp only [cellsOK, List.all_cons, Bool.and_eq_true] at h
    simp only [RepL] at hr
    obtain ⟨v, us, rfl, hx, hl⟩ := hr
    intro u hu
    rcases List.mem_cons.1 hu with rfl | hu
    · exact leaf_one h.1 hx
    · exact leaves_one h.2 hl u hu

/-- The cells of a value whose cells are known. -/
theorem cells_rep {Γ : Cx} {w : World} {x : IV} {v : Value} (h : cellsOK x.cells = true) (hr : Rep Γ w x v) : ∃ vs, v.cells = vs.toArray ∧ RepL Γ w x.cells vs ∧ ∀ u ∈ vs, u.oneCell' = true := by
  by_cases ha : ∃ l, x = .agg l
  · obtain ⟨l, rfl⟩ := ha
    simp only [Rep] at hr
    obtain ⟨vs, rfl, hl⟩ := hr
    exact ⟨vs, rfl, hl, leaves_one h hl⟩
  · have hc : x.cells = [x] := by cases x <;> simp_all [IV.cells]
    rw [hc] at h ⊢
    simp only [cellsOK, List.all_cons, List.all_nil, Bool.and_true] at h
    have h1 := leaf_one h hr
    refine ⟨[v], ?_, by simp only [RepL]; exact ⟨v, [], rfl, hr, rfl⟩, by simpa using h1⟩
    cases v <;> simp [Value.oneCell'] at h1 <;> rfl

theorem repL_zcells (Γ : Cx) (w : World) (z : Value) : RepL Γ w (zcells z) z.cells.toList := by
  have key : ∀ y : IV, (∀ l, y ≠ .agg l) → Rep Γ w y z → z.cells = #[z] → RepL Γ w y.cells z.cells.toList := by
    intro y hy hr hz
    have hc : y.cells = [y] := by cases y <;> simp_all [IV.cells]
    rw [hc, hz]
    simp only [RepL]
    exact ⟨z, [], rfl, hr, rfl⟩
  have hl : ∀ v : Value, ∀ l, leafOf v ≠ .agg l := by
    intro v l
    unfold leafOf
    split <;> simp
  unfold zcells
  cases z with
  | agg vs => exact repL_leafOf Γ w vs.toList
  | tuple vs => exact key _ (by simp [ofVal]) (rep_ofVal Γ w _) rfl
  | bool b => exact key _ (by simp [ofVal, leafOf]) (rep_ofVal Γ w _) rfl
  | int k n => exact key _ (by simp [ofVal, leafOf]) (rep_ofVal Γ w _) rfl
  | string s => exact key _ (by simp [ofVal, leafOf]) (rep_ofVal Γ w _) rfl
  | _ => exact key _ (by unfold ofVal; exact hl _) (rep_ofVal Γ w _) rfl

theorem repL_lsr {Γ : Cx} {w : World} {l xs : List IV} {vs us : List Value} {i : Nat} (h : RepL Γ w l vs) (k : RepL Γ w xs us) (hb : i + xs.length ≤ l.length) : RepL Γ w (listSetRange l i xs) (listSetRange vs i us) := by
  have e1 := repL_len _ _ h
  have e2 := repL_len _ _ k
  rw [lsr_eq _ _ _ hb, lsr_eq _ _ _ (by omega), e2]
  exact repL_append (repL_append (repL_take i h) k) (repL_drop _ h)

/-! ### Elements' cells in a row -/
def RepEV (ok : Nat → Prop) (w : World) (e : Nat) : List IV → List Value → Prop
  | [], vs => vs = []
  | x :: xs, vs => ∃ us ws, vs = us ++ ws ∧ x.cells.length = e ∧ cellsOK x.cells = true ∧ RepCL ok w x.cells us ∧ RepEV ok w e xs ws

section
variable {ok : Nat → Prop} {w : World} {e : Nat}

theorem RepEV.mono {ok' : Nat → Prop} {w' : World} (h : ∀ g, ok g → ok' g ∧ w'.heap[g]? = w.heap[g]?) : ∀ {l : List IV} {vs : List Value}, RepEV ok w e l vs → RepEV ok' w' e l vs
  | [], _, hr => hr
  | x :: xs, _, hr => by
    obtain ⟨us, ws, rfl, h1, h2, h3, h4⟩ := hr
    exact ⟨us, ws, rfl, h1, h2, RepCL.mono h _ _ h3, RepEV.mono h h4⟩

theorem RepEV.len : ∀ {l : List IV} {vs : List Value}, RepEV ok w e l vs → vs.length = l.length * e
  | [], _, hr => by simp only [RepEV] at hr; subst hr; simp
  | x :: xs, _, hr => by
    obtain ⟨us, ws, rfl, h1, h2, h3, h4⟩ := hr
    rw [List.length_append, repCL_len _ _ h3, RepEV.len h4, h1, List.length_cons, Nat.add_mul]
    omega

theorem RepEV.append : ∀ {l m : List IV} {vs us : List Value}, RepEV ok w e l vs → RepEV ok w e m us → RepEV ok w e (l ++ m) (vs ++ us)
  | [], m, _, us, hr, k => by simp only [RepEV] at hr; subst hr; exact k
  | x :: xs, m, _, us', hr, k => by
    obtain ⟨us, ws, rfl, h1, h2, h3, h4⟩ := hr
    exact ⟨us, ws ++ us', by simp, h1, h2, h3, RepEV.append h4 k⟩

theorem repCL_one : ∀ {l : List IV} {vs : List Value}, cellsOK l = true → RepCL ok w l vs → ∀ u ∈ vs, u.oneCell' = true := by
  intro l vs h hr
  exact leaves_one (Γ := ⟨ok, [], []⟩) h (repCL_repL l vs hr)

theorem RepEV.one : ∀ {l : List IV} {vs : List Value}, RepEV ok w e l vs → ∀ u ∈ vs, u.oneCell' = true
  | [], _, hr => by simp only [RepEV] at hr; subst hr; simp
  | x :: xs, _, hr => by
    obtain ⟨us, ws, rfl, h1, h2, h3, h4⟩ := hr
    intro u hu
    rcases List.mem_append.1 hu with hu | hu
    · exact repCL_one h2 h3 u hu
    · exact RepEV.one h4 u hu

theorem repEs_vals {g : Nat} : ∀ {l : List IV} {o : Nat}, RepEs ok w e g o l → ∃ vs, RepEV ok w e l vs ∧ ∀ j v, vs[j]? = some v → w.cell? ⟨g, o + j, none⟩ = some v
  | [], o, _ => ⟨[], rfl, by simp⟩
  | x :: xs, o, h => by
    rw [RepEs_cons] at h
    obtain ⟨⟨h1, h2⟩, h3⟩ := h
    obtain ⟨us, k1, k2, k3⟩ := repCs_back _ _ h2
    obtain ⟨ws, m1, m2⟩ := repEs_vals h3
    have hl : us.length = e := by rw [repCL_len _ _ k1, h1]
    refine ⟨us ++ ws, ⟨us, ws, rfl, h1, k3, k1, m1⟩, fun j v hj => ?_⟩
    by_cases hlt : j < us.length
    · rw [List.getElem?_append_left hlt] at hj
      exact k2 j v hj
    · rw [List.getElem?_append_right (by omega)] at hj
      have := m2 _ v hj
      rwa [show o + e + (j - us.length) = o + j by omega] at this

theorem repEs_of {g : Nat} : ∀ {l : List IV} {vs : List Value} {o : Nat}, RepEV ok w e l vs → (∀ j v, vs[j]? = some v → w.cell? ⟨g, o + j, none⟩ = some v) → RepEs ok w e g o l
  | [], _, _, _, _ => by simp only [RepEs]
  | x :: xs, _, o, h, hc => by
    obtain ⟨us, ws, rfl, h1, h2, h3, h4⟩ := h
    have hl : us.length = e := by rw [repCL_len _ _ h3, h1]
    rw [RepEs_cons]
    refine ⟨⟨h1, repCs_of _ us o h2 h3 fun j v hj => hc j v ?_⟩, repEs_of h4 fun j v hj => ?_⟩
    · rw [List.getElem?_append_left (List.getElem?_eq_some_iff.1 hj).1]
      exact hj
    · have := hc (e + j) v (by rw [List.getElem?_append_right (by omega), show e + j - us.length = j by omega]; exact hj)
      rwa [← Nat.add_assoc] at this

theorem repEV_bytes (b : List UInt8) : RepEV ok w 1 (u8s b) (b.map fun x => Value.int .u8 (x.toNat : Int)) := by
  induction b with
  | nil => rfl
  | cons x b ih =>
    refine ⟨[.int .u8 (x.toNat : Int)], _, rfl, rfl, rfl, ?_, ih⟩
    simp only [IV.cells, RepCL]
    exact ⟨_, [], rfl, rfl, rfl⟩

theorem repEV_rep {x : IV} {us : List Value} (h1 : x.cells.length = e) (h2 : cellsOK x.cells = true) (h3 : RepCL ok w x.cells us) : ∀ n, RepEV ok w e (List.replicate n x) ((List.replicate n us).flatten)
  | 0 => rfl
  | n + 1 => by
    simp only [List.replicate_succ, List.flatten_cons]
    exact ⟨us, _, rfl, h1, h2, h3, repEV_rep h1 h2 h3 n⟩
end

/-! RepCL with parts set: pointwise, no reference in sight. -/
theorem repCL_append {ok : Nat → Prop} {w : World} : ∀ {l m : List IV} {vs us : List Value}, RepCL ok w l vs → RepCL ok w m us → RepCL ok w (l ++ m) (vs ++ us)
  | [], m, vs, us, h, k => by simp only [RepCL] at h; subst h; exact k
  | x :: xs, m, _, us, h, k => by
    simp only [RepCL] at h
    obtain ⟨v, vs, rfl, hx, hl⟩ := h
    simp only [List.cons_append, RepCL]
    exact ⟨v, _, rfl, hx, repCL_append hl k⟩
theorem repCL_take {ok : Nat → Prop} {w : World} : ∀ {l : List IV} {vs : List Value} (n : Nat), RepCL ok w l vs → RepCL ok w (l.take n) (vs.take n)
  | l, vs, 0, h => by simp [RepCL]
  | [], vs, n + 1, h => by simp only [RepCL] at h; subst h; simp [RepCL]
  | x :: xs, _, n + 1, h => by
    simp only [RepCL] at h
    obtain ⟨v, us, rfl, hx, hl⟩ := h
    simp only [List.take_succ_cons, RepCL]
    exact ⟨v, _, rfl, hx, repCL_take n hl⟩
theorem repCL_drop {ok : Nat → Prop} {w : World} : ∀ {l : List IV} {vs : List Value} (n : Nat), RepCL ok w l vs → RepCL ok w (l.drop n) (vs.drop n)
  | l, vs, 0, h => by simpa using h
  | [], vs, n + 1, h => by simp only [RepCL] at h; subst h; simp [RepCL]
  | x :: xs, _, n + 1, h => by
    simp only [RepCL] at h
    obtain ⟨v, us, rfl, _, hl⟩ := h
    exact repCL_drop n hl
theorem repCL_set {ok : Nat → Prop} {w : World} {l xs : List IV} {vs us : List Value} {i : Nat} (h : RepCL ok w l vs) (k : RepCL ok w xs us) (hb : i + xs.length ≤ l.length) : RepCL ok w (listSetRange l i xs) (listSetRange vs i us) := by
  have e1 := repCL_len _ _ h
  have e2 := repCL_len _ _ k
  rw [lsr_eq _ _ _ hb, lsr_eq _ _ _ (by omega), e2]
  exact repCL_append (repCL_append (repCL_take i h) k) (repCL_drop _ h)
theorem cellsOK_lsr {l xs : List IV} {i : Nat} (h : cellsOK l = true) (k : cellsOK xs = true) (hb : i + xs.length ≤ l.length) : cellsOK (listSetRange l i xs) = true := by
  rw [lsr_eq _ _ _ hb]
  simp only [cellsOK, List.all_append, Bool.and_eq_true, List.all_eq_true] at h k ⊢
  exact ⟨⟨fun x hx => h x (List.mem_of_mem_take hx), k⟩, fun x hx => h x (List.mem_of_mem_drop hx)⟩

theorem repEV_set {ok : Nat → Prop} {w : World} {e : Nat} {y : IV} {us : List Value} {off : Nat} (hy : RepCL ok w y.cells us) (hk : cellsOK y.cells = true) (h0 : 0 < y.cells.length) (hb : off + y.cells.length ≤ e) :
    ∀ {l : List IV} {vs : List Value} {i : Nat}, RepEV ok w e l vs → i < l.length → RepEV ok w e (l.set i (setEl (nthD l i) off y)) (listSetRange vs (i * e + off) us)
  | [], _, i, _, hi => by simp at hi
  | x :: xs, _, 0, h, hi0 => by
    clear hi0
    obtain ⟨u0, ws, rfl, h1, h2, h3, h4⟩ := h
    have hl0 : u0.length = e := by rw [repCL_len _ _ h3, h1]
    have hl1 : us.length = y.cells.length := repCL_len _ _ hy
    simp only [List.set_cons_zero, nthD, List.getD_cons_zero, Nat.zero_mul, Nat.zero_add]
    rw [lsr_left (by omega)]
    refine ⟨_, ws, rfl, ?_, ?_, ?_, h4⟩
    · unfold setEl
      split
      · simp only [IV.cells, lsr_length]; exact h1
      · rename_i hna
        have : x.cells = [x] := by cases x <;> simp_all [IV.cells]
        rw [this] at h1
        simp at h1
        omega
    · unfold setEl
      split
      · rename_i cs
        have h1 : cs.length = e := h1
        exact cellsOK_lsr (l := cs) h2 hk (by omega)
      · exact hk
    · unfold setEl
      split
      · rename_i cs
        have h1 : cs.length = e := h1
        exact repCL_set (l := cs) h3 hy (by omega)
      · rename_i hna
        have : x.cells = [x] := by cases x <;> simp_all [IV.cells]
        rw [this] at h1
        simp at h1
        have ho : off = 0 := by omega
        subst ho
        rw [lsr_eq _ _ _ (by omega)]
        have hd : u0.drop us.length = [] := by simp; omega
        simpa [hd] using hy
  | x :: xs, _, i + 1, h, hi => by
    obtain ⟨u0, ws, rfl, h1, h2, h3, h4⟩ := h
    have hl0 : u0.length = e := by rw [repCL_len _ _ h3, h1]
    have hl1 : us.length = y.cells.length := repCL_len _ _ hy
    simp only [List.length_cons] at hi
    have ih := repEV_set hy hk h0 hb h4 (i := i) (by omega)
    have hbb : i * e + off + us.length ≤ ws.length := by
      rw [RepEV.len h4]
      have := Nat.mul_le_mul_right e (show i + 1 ≤ xs.length by omega)
      rw [Nat.add_mul] at this
      omega
    simp only [List.set_cons_succ, nthD, List.getD_cons_succ]
    rw [show (i + 1) * e + off = u0.length + (i * e + off) by rw [Nat.add_mul]; omega, lsr_right (by omega)]
    exact ⟨u0, _, rfl, h1, h2, h3, ih⟩
end Go.Im

namespace Go.Im
open Go
set_option linter.unusedVariables false
set_option linter.unusedSimpArgs false
set_option linter.unnecessarySimpa false
set_option linter.unusedSectionVars false
section
variable {P : Program} {H : Hint} {Γ : Cx} {w : World} {s : St} {a : Act} {ch : List (Nat × Bool)} {o : Oper} {r : IV × List Blk × Kd}

theorem quiet_alloc (w : World) (x : Obj) : Quiet w (w.alloc x) := ⟨rfl, rfl, rfl, by simp⟩
theorem alloc_old (w : World) (x : Obj) : ∀ g, g < w.heap.size → (w.alloc x).heap[g]? = w.heap[g]? := fun g hg => by
  rw [show (w.alloc x).heap = w.heap.push x from rfl, Array.getElem?_push_lt hg, Array.getElem?_eq_getElem hg]

theorem info_some {t : TypeId} {z : Value} {size bytes : Nat} (h : infoOf P t = some (z, size, bytes)) : ∃ i, P.info? t = some i ∧ i.zero = some z ∧ i.size = size ∧ i.bytes = bytes := by
  unfold infoOf at h
  obtain ⟨i, h1, h2⟩ := Option.bind_eq_some_iff.1 h
  obtain ⟨z', h3, h4⟩ := Option.map_eq_some_iff.1 h2
  cases h4
  exact ⟨i, h1, h3, rfl, rfl⟩

/-- A variable more. -/
theorem new_var (hi : Inv Γ w) (t : TypeId) {cs : List IV} {arr : Array Value} (hr : RepL Γ w cs arr.toList) :
    Step Γ w (Γ.add (.var false cs) (some w.heap.size)) (w.alloc (.cells arr t)) ∧ Rep (Γ.add (.var false cs) (some w.heap.size)) (w.alloc (.cells arr t)) (.ptr Γ.T.length 0) (.pointer (some ⟨w.heap.size, 0, none⟩)) := by
  refine ⟨step_new hi (quiet_alloc w _) (alloc_old w _) (fun g h => by cases h; exact Nat.le_refl _) ?_, ?_⟩
  · refine ⟨w.heap.size, arr, t, rfl, heap_alloc_new w _, RepL.ext (ext_add hi (alloc_old w _) _ _) _ _ hr, (fun h => by cases h), fun _ h => ?_⟩
    exact absurd (hi.okb _ h) (by omega)
  · simp only [Rep, RefP]
    refine ⟨by simp [Cx.add], rfl, fun fz cs' h => ?_⟩
    refine ⟨w.heap.size, ?_, rfl⟩
    simp only [Cx.add]
    rw [List.getElem?_append_right (by rw [hi.len]; exact Nat.le_refl _)]
    simp [hi.len]

theorem does_alloc (hat : At H Γ w s a ch) {t : TypeId} (ho : o.op = .alloc t) (h : oAlloc P s t = some r) : Does P o a w Γ r := by
  unfold oAlloc at h
  split at h
  · rename_i z size bytes hinf
    obtain ⟨i, h1, h2, _, _⟩ := info_some hinf
    cases h
    obtain ⟨k1, k2⟩ := new_var hat.inv t (repL_zcells Γ w z)
    refine ⟨_, .pointer (some ⟨w.heap.size, 0, none⟩), w.alloc (.cells z.cells t), _, ?_, .inl rfl, ?_, k1, ?_⟩
    · unfold execOp
      simp [ho, Instr.alloc, zeroValue, typeInfo, h1, h2, newVar, newRow]
    · simp [Cx.add, hat.T]
    · rw [← hat.T]
      exact k2
  · cases h

theorem does_box (hat : At H Γ w s a ch) {t : TypeId} {x : Operand} (ho : o.op = .box t x) (h : oBox H ch s t x = some r) : Does P o a w Γ r := by
  unfold oBox at h
  split at h
  · rename_i y hy
    split at h
    · rename_i hc
      cases h
      obtain ⟨vs, h1, h2, h3⟩ := cells_rep hc (ev_rep hat hy)
      obtain ⟨k1, k2⟩ := new_var (arr := (a.eval x).cells) hat.inv t (by rw [h1]; exact h2)
      refine ⟨_, .pointer (some ⟨w.heap.size, 0, none⟩), w.alloc (.cells (a.eval x).cells t), _, ?_, .inl rfl, ?_, k1, ?_⟩
      · unfold execOp
        simp [ho, Instr.box, newVar, newRow]
      · simp [Cx.add, hat.T]
      · rw [← hat.T]
        exact k2
    · cases h
  · cases h

theorem quiet_setRow (w : World) (g : Nat) (cs : Array Value) : Quiet w (w.setRow g cs) := ⟨rfl, rfl, rfl, by simp [World.setRow]⟩

/-- A store of cells. -/
theorem run_storeAt {t : TypeId} {v u : Value} {vs : List Value} {g off : Nat} {ty : TypeId} {cur : Array Value} (hv : v.cells = vs.toArray) (hs : vs.length = sizeAt P t) (hinf : ∃ i, P.info? t = some i) (h1 : ∀ u ∈ vs, u.oneCell' = true)
    (hg : w.heap[g]? = some (.cells cur ty (0, 0))) (hb : off + vs.length ≤ cur.size) (hu : u = .pointer (some ⟨g, off, none⟩)) :
    (Instr.storeAt t u v).run P w = .ok () (w.setRow g (listSetRange cur.toList off vs).toArray) := by
  obtain ⟨i, hi⟩ := hinf
  have hst := run_storeCells_at P g off ty vs 0 cur w hg (by omega) h1
  rw [lsr_eq _ _ _ (by simpa using hb)]
  simp only [Nat.add_zero] at hst
  simp [Instr.storeAt, Instr.sureAddr, hu, storeVar, hv, run_sizeAt hi, hs, hst]

theorem own_row {T : List Blk} {b ver e : Nat} {l : List IV} (h : own? T b ver = some (e, l)) : T[b]? = some (.row ver false e l) := by
  unfold own? at h
  split at h
  · rename_i v' fz' e' l' hb
    split at h
    · rename_i hv
      subst hv
      cases fz' with
      | true => cases h
      | false =>
        simp only [Option.some.injEq, Prod.mk.injEq] at h
        obtain ⟨rfl, rfl⟩ := h
        exact hb
    · cases h
  · cases h

theorem rep_unit (Γ : Cx) (w : World) : Rep Γ w unit undef := by
  simp only [unit, Rep]
  exact ⟨[], rfl, rfl⟩

theorem does_store (hat : At H Γ w s a ch) {t : TypeId} {p x : Operand} (ho : o.op = .store t p x) (h : oStore P H ch s t p x = some r) :
    Does P o a w Γ r := by
  unfold oStore at h
  split at h
  · rename_i y z hy hz
    have hp := ev_rep hat hy
    have hx := ev_rep hat hz
    rw [← hat.T] at h
    unfold astore at h
    split at h
    · rename_i hsz
      have hinf := info_of_size (P := P) (e := t) (by omega)
      split at h
      · cases h
      · rename_i hc
        obtain ⟨vs, h1, h2, h3⟩ := cells_rep hc hx
        have hlen := repL_len _ _ h2
        have fin : ∀ w', (Instr.storeAt t (a.eval p) (a.eval x)).run P w = .ok () w' → (execOp a.eval o).run P w = .ok .skip w' := by
          intro w' hw
          unfold execOp
          simp [ho, hw]
        split at h
        · rename_i b off
          split at h
          · rename_i cs hb
            split at h
            · rename_i hbd
              cases h
              simp only [Rep, RefP] at hp
              obtain ⟨g, hg, he⟩ := hp.2.2 _ _ hb
              obtain ⟨g', arr, ty, k1, k2, k3, k4, k5⟩ := hat.inv.var b _ _ hb
              rw [hg] at k1; cases k1
              have hal : arr.toList.length = cs.length := repL_len _ _ k3
              have hrun := run_storeAt (P := P) (w := w) (t := t) (u := a.eval p) h1 (by omega) hinf h3 k2 (by simp at hal; omega) he
              have hold : ∀ g2, g2 < w.heap.size → some g ≠ some g2 → (w.setRow g (listSetRange arr.toList off vs).toArray).heap[g2]? = w.heap[g2]? := fun g2 _ hne => setRow_other w g g2 _ (fun e => hne (by rw [e]))
              have hov : Over w (w.setRow g (listSetRange arr.toList off vs).toArray) (.var false cs) (.var false (listSetRange cs off z.cells)) (some g) (some g) := ⟨(lsr_length _ _ _).symm, rfl⟩
              refine ⟨_, undef, _, Γ.set b (.var false (listSetRange cs off z.cells)) (some g), fin _ hrun, .inr ⟨rfl, rfl⟩, rfl, step_set hat.inv (quiet_setRow w g _) hb hg rfl hov hold (.inl rfl) ?_, rep_unit _ _⟩
              refine ⟨g, _, ty, rfl, setRow_heap w g arr _ ty (0, 0) k2, ?_, (fun h => by cases h), k5⟩
              have he := ext_set hat.inv hb hg hov rfl hold (fun g2 e => by cases e; exact k5 rfl)
              exact RepL.ext he _ _ (by simpa using repL_lsr k3 h2 hbd)
            · cases h
          · cases h
        · rename_i b ver i off
          split at h
          · rename_i e l how
            have hb := own_row how
            split at h
            · rename_i y' bs hfz
              split at h
              · cases h
              · rename_i hc'
                split at h
                · cases h
                · rename_i hnb
                  split at h
                  · rename_i hbd
                    cases h
                    obtain ⟨hil, hoff, h0⟩ := hbd
                    have hnb : b ∉ bs := by simpa using hnb
                    have S1 := step_shut hat.inv bs
                    have hy' := frz_rep (bs' := bs) hat.inv z y' bs _ hfz (fun _ h => h) hx
                    have hb1 : (Γ.shut bs).T[b]? = some (.row ver false e l) := by
                      simp only [Cx.shut]
                      rw [shut_get, if_neg hnb]
                      exact hb
                    simp only [Rep, RefE] at hp
                    obtain ⟨_, g, hg, he⟩ := (hp.2.2 _ _ _ _ hb).2 rfl
                    rcases S1.inv.row b _ _ _ _ hb1 with ⟨k1, _⟩ | ⟨g', arr, ty, k1, k2, k3, k4, _, k6⟩
                    · have : (Γ.shut bs).ρ[b]? = some (some g) := hg
                      rw [this] at k1; cases k1
                    · have hg1 : (Γ.shut bs).ρ[b]? = some (some g) := hg
                      rw [hg1] at k1; cases k1
                      obtain ⟨vs', m1, m2, m3⟩ := cells_rep hc' (repC_rep _ _ hy')
                      have hvs : vs' = vs := by rw [h1] at m1; simpa using m1.symm
                      subst hvs
                      have hl2 := repL_len _ _ m2
                      have hil2 : i * e + e ≤ l.length * e := by
                        have := Nat.mul_le_mul_right e (show i + 1 ≤ l.length from hil)
                        rw [Nat.add_mul] at this; omega
                      have hrun := run_storeAt (P := P) (w := w) (t := t) (u := a.eval p) h1 (by omega) hinf h3 k2 (by omega) he
                      have hy2 : RepCL (Γ.shut bs).ok w y'.cells vs' := by
                        have hcl : ∀ (x : IV) (v : Value) (vs : List Value), cellsOK x.cells = true → RepC (Γ.shut bs).ok w x v → v.cells = vs.toArray → RepCL (Γ.shut bs).ok w x.cells vs := by
                          intro x v vs hk hr hv
                          by_cases ha : ∃ l, x = .agg l
                          · obtain ⟨l, rfl⟩ := ha
                            simp only [RepC] at hr
                            obtain ⟨us, rfl, hl⟩ := hr
                            have : us = vs := by simpa [Value.cells] using hv
                            subst this
                            exact hl
                          · have hcx : x.cells = [x] := by cases x <;> simp_all [IV.cells]
                            rw [hcx] at hk ⊢
                            simp only [cellsOK, List.all_cons, List.all_nil, Bool.and_true] at hk
                            have h1 := leaf_one (Γ := Γ.shut bs) hk (repC_rep _ _ hr)
                            have : v.cells = #[v] := by cases v <;> simp [Value.oneCell'] at h1 <;> rfl
                            rw [this] at hv
                            have : vs = [v] := by
                              have := congrArg Array.toList hv
                              simpa using this.symm
                            rw [this]
                            simp only [RepCL]
                            exact ⟨v, [], rfl, hr, rfl⟩
                        exact hcl y' _ vs' hc' hy' h1
                      obtain ⟨us, n1, n2⟩ := repEs_vals k4
                      have hev := repEV_set hy2 hc' h0 hoff (off := off) n1 hil
                      have hul := RepEV.len n1
                      have hcur : ∀ (j : Nat) (v : Value), us[j]? = some v → arr.toList[j]? = some v := by
                        intro j v hj
                        have := n2 j v hj
                        rw [Nat.zero_add, cell_row k2] at this
                        simpa using this
                      have hpre : us <+: arr.toList := by
                        rw [List.prefix_iff_eq_take]
                        apply List.ext_getElem?
                        intro j
                        rw [List.getElem?_take]
                        split
                        · rename_i hj
                          rw [List.getElem?_eq_getElem hj]
                          exact (hcur j _ (List.getElem?_eq_getElem hj)).symm
                        · rename_i hj
                          rw [List.getElem?_eq_none (by omega)]
                      obtain ⟨rest, hrest⟩ := hpre
                      have hold : ∀ g2, g2 < w.heap.size → some g ≠ some g2 → (w.setRow g (listSetRange arr.toList (i * e + off) vs').toArray).heap[g2]? = w.heap[g2]? := fun g2 _ hne => setRow_other w g g2 _ (fun e => hne (by rw [e]))
                      have hok : ∀ g2, (Γ.shut bs).ok g2 → (Γ.shut bs).ok g2 ∧ (w.setRow g (listSetRange arr.toList (i * e + off) vs').toArray).heap[g2]? = w.heap[g2]? := fun g2 h2 => ⟨h2, hold g2 (S1.inv.okb _ h2) (fun e => by cases e; exact k6 rfl h2)⟩
                      have hov : Over w (w.setRow g (listSetRange arr.toList (i * e + off) vs').toArray) (.row ver false e l) (.row ver false e (l.set i (setEl (nthD l i) off y'))) (some g) (some g) := by
                        refine ⟨Nat.le_refl _, fun _ => ⟨rfl, by simp, rfl, fun g2 arr2 ty2 hg2 ha2 => ?_⟩⟩
                        cases hg2
                        rw [k2] at ha2
                        cases ha2
                        exact ⟨_, setRow_heap w g arr _ ty (0, 0) k2, by simp [lsr_length]⟩
                      refine ⟨_, undef, _, (Γ.shut bs).set b (.row ver false e (l.set i (setEl (nthD l i) off y'))) (some g), fin _ hrun, .inr ⟨rfl, rfl⟩, rfl, S1.trans (step_set S1.inv (quiet_setRow w g _) hb1 hg1 rfl hov hold (.inl rfl) ?_), rep_unit _ _⟩
                      refine .inr ⟨g, _, ty, rfl, setRow_heap w g arr _ ty (0, 0) k2, by simp [lsr_length]; omega, ?_, (fun h => by cases h), k6⟩
                      refine repEs_of (RepEV.mono hok hev) fun j v hj => ?_
                      rw [Nat.zero_add, cell_row (setRow_heap w g arr _ ty (0, 0) k2), ← hrest, lsr_left (by omega)]
                      rw [← Array.getElem?_toList]
                      show (listSetRange us (i * e + off) vs' ++ rest)[j]? = some v
                      rw [List.getElem?_append_left (List.getElem?_eq_some_iff.1 hj).1]
                      exact hj
                  · cases h
            · cases h
          · cases h
        · cases h
    · cases h
  · cases h
end
end Go.Im

namespace Go.Im
open Go
set_option linter.unusedVariables false
set_option linter.unusedSimpArgs false
set_option linter.unnecessarySimpa false
set_option linter.unusedSectionVars false
section
variable {P : Program} {H : Hint} {Γ : Cx} {w : World} {s : St} {a : Act} {ch : List (Nat × Bool)} {o : Oper} {r : IV × List Blk × Kd}

theorem cellsC_rep {ok : Nat → Prop} {x : IV} {v : Value} (h : cellsOK x.cells = true) (hr : RepC ok w x v) : ∃ vs : List Value, v.cells = vs.toArray ∧ RepCL ok w x.cells vs := by
  by_cases ha : ∃ l, x = .agg l
  · obtain ⟨l, rfl⟩ := ha
    simp only [RepC] at hr
    obtain ⟨us, rfl, hl⟩ := hr
    exact ⟨us, rfl, hl⟩
  · have hcx : x.cells = [x] := by cases x <;> simp_all [IV.cells]
    rw [hcx] at h ⊢
    simp only [cellsOK, List.all_cons, List.all_nil, Bool.and_true] at h
    have h1 := leaf_one (Γ := ⟨ok, [], []⟩) h (repC_rep (Γ := ⟨ok, [], []⟩) _ _ hr)
    refine ⟨[v], by cases v <;> simp [Value.oneCell'] at h1 <;> rfl, ?_⟩
    simp only [RepCL]
    exact ⟨v, [], rfl, hr, rfl⟩

def Cx.grow (Γ : Cx) (g : Nat) : Cx := ⟨fun x => Γ.ok x ∨ x = g, Γ.T, Γ.ρ⟩

/-- A frozen block more. -/
theorem step_grow {w' : World} (hi : Inv Γ w) (hq : Quiet w w') (hold : ∀ g, g < w.heap.size → w'.heap[g]? = w.heap[g]?) (hlt : w.heap.size < w'.heap.size) : Step Γ w (Γ.grow w.heap.size) w' := by
  have he : Ext Γ (Γ.grow w.heap.size) w w' := by
    refine ⟨fun g hg => ⟨.inl hg, hold g (hi.okb g hg)⟩, Nat.le_refl _, fun _ fz cs _ h => ⟨fz, cs, h, rfl, rfl⟩, fun _ ver fz e l _ h => ⟨ver, fz, e, l, h, Nat.le_refl _, fun _ => ⟨rfl, rfl, rfl, fun g arr ty _ ha => ⟨arr, ?_, rfl⟩⟩⟩, fun _ j _ h => ⟨j, h, rfl⟩⟩
    rw [hold g (Array.getElem?_eq_some_iff.1 ha).1]
    exact ha
  refine ⟨inv_of hi.len ?_ ?_ hi.inj, he, ⟨lps_old hold, hq.os, hq.tape, hq.output, hq.size, fun g hg _ => hold g hg⟩, fun _ h => .inl h, ?_, fun _ h => .inl h⟩
  · intro g h
    rcases h with h | rfl
    · exact Nat.lt_trans (hi.okb g h) hlt
    · exact hlt
  · intro b k hb
    obtain ⟨og, h1, h2⟩ := inv_blk hi hb
    refine ⟨og, h1, ?_⟩
    cases k with
    | dead => trivial
    | _ =>
      refine h2.ext he (fun g e _ => ⟨fun h => ?_, .inl⟩) (fun g e => hold g (blk_lt hi hb rfl (by rw [h1, e])))
      rcases h with h | rfl
      · exact h
      · subst e
        exact absurd (blk_lt hi hb rfl h1) (Nat.lt_irrefl _)
  · intro g h
    rcases h with h | rfl
    · exact .inl h
    · exact .inr (.inr (Nat.le_refl _))

theorem inv_okadd (hi : Inv Γ w) {g : Nat} (hlt : g < w.heap.size) (hn : ∀ (b : Nat) (k : Blk), Γ.T[b]? = some k → k.live = true → Γ.ρ[b]? ≠ some (some g)) : Inv (Γ.grow g) w := by
  have he : Ext Γ (Γ.grow g) w w := ⟨fun g hg => ⟨.inl hg, rfl⟩, Nat.le_refl _, fun _ fz cs _ h => ⟨fz, cs, h, rfl, rfl⟩, fun _ ver fz e l _ h => ⟨ver, fz, e, l, h, Nat.le_refl _, fun _ => ⟨rfl, rfl, rfl, fun g arr ty _ ha => ⟨arr, ha, rfl⟩⟩⟩, fun _ j _ h => ⟨j, h, rfl⟩⟩
  refine inv_of hi.len ?_ ?_ hi.inj
  · rintro g' (h | rfl)
    · exact hi.okb g' h
    · exact hlt
  · intro b k hb
    obtain ⟨og, h1, h2⟩ := inv_blk hi hb
    refine ⟨og, h1, ?_⟩
    cases k with
    | dead => trivial
    | _ =>
      refine h2.ext he (fun g' e _ => ⟨fun h => ?_, .inl⟩) (fun g e => rfl)
      rcases h with h | rfl
      · exact h
      · subst e
        exact absurd h1 (hn b _ hb rfl)
/-- A block that is a variable no more: what it holds is read alone from now on. -/
theorem step_mark {w' : World} {b g : Nat} {k0 : Blk} (hi : Inv Γ w) (hq : Quiet w w') (hb : Γ.T[b]? = some k0) (hk0 : k0.own = true) (hov : Over w w' k0 .dead (some g) (some g)) (hr : Γ.ρ[b]? = some (some g)) (hold : ∀ g', g' < w.heap.size → some g ≠ some g' → w'.heap[g']? = w.heap[g']?) :
    Step Γ w ((Γ.set b .dead (some g)).grow g) w' := by
  have hA : Step Γ w (Γ.set b .dead (some g)) w' := step_set hi hq hb hr hk0 hov hold (.inl rfl) trivial
  have hlv : k0.live = true := by cases k0 <;> simp_all [Blk.own, Blk.live]
  have hlt : g < w.heap.size := blk_lt hi hb hlv hr
  have hbl : b < Γ.T.length := (List.getElem?_eq_some_iff.1 hb).1
  refine ⟨inv_okadd hA.inv (Nat.lt_of_lt_of_le hlt hq.size) ?_, ⟨fun x hx => ⟨.inl (hA.ext.ok x hx).1, (hA.ext.ok x hx).2⟩, hA.ext.len, hA.ext.var, hA.ext.row, hA.ext.lp⟩, hA.frm, hA.own, ?_, hA.liv⟩
  · intro c k hc hl e
    simp only [Cx.set] at hc e
    by_cases ec : b = c
    · subst ec
      rw [List.getElem?_set_self hbl] at hc
      cases hc
      cases hl
    · rw [List.getElem?_set_ne ec] at hc e
      exact ec (hi.inj b c g _ _ hb hlv hc hl hr e)
  · rintro x (h | rfl)
    · exact hA.okp x h
    · exact .inr (.inl ⟨b, _, hb, hk0, hr⟩)

theorem bytesOfIV_eq : ∀ {l : List IV} {bs : List UInt8}, bytesOfIV l = some bs → ∃ ns : List Int, l = ns.map (IV.int .u8) ∧ bs = ns.map fun n => UInt8.ofNat n.toNat
  | [], bs, h => by simp only [bytesOfIV, Option.some.injEq] at h; subst h; exact ⟨[], rfl, rfl⟩
  | x :: xs, bs, h => by
    unfold bytesOfIV at h
    split at h
    · rename_i e; cases e
    · rename_i n ys e
      cases e
      obtain ⟨l, h1, rfl⟩ := Option.map_eq_some_iff.1 h
      obtain ⟨ns, rfl, rfl⟩ := bytesOfIV_eq h1
      exact ⟨n :: ns, rfl, rfl⟩
    · cases h

theorem repEV_ints {ok : Nat → Prop} {e : Nat} : ∀ {ns : List Int} {vs : List Value}, RepEV ok w e (ns.map (IV.int .u8)) vs → vs = ns.map (Value.int .u8)
  | [], _, h => h
  | n :: ns, _, h => by
    simp only [List.map_cons] at h
    obtain ⟨us, ws, rfl, h1, h2, h3, h4⟩ := h
    simp only [IV.cells, RepCL] at h3
    obtain ⟨v, us', rfl, hv, rfl⟩ := h3
    simp only [RepC] at hv
    rw [hv, repEV_ints h4]
    rfl

theorem run_mark (w : World) (src e : TypeId) (hs : P.underlying src = some (.slice e)) (he : P.underlying e = some (.int .u8)) (g n c : Nat) {arr : Array Value} {ty : TypeId} (hh : w.heap[g]? = some (.cells arr ty (0, 0))) :
    (convert src src (.slice (some ⟨g, 0, none⟩) n c)).run P w = .ok (.slice (some ⟨g, 0, none⟩) n c) (w.freeze ⟨g, arr.size, none⟩ 1) := by
  have hsh : w.shape? g = some (ty, arr.size) := by simp [World.shape?, hh]
  simp [convert, run_underlying hs, run_underlying he, markStringish, hsh]
theorem repEV_ns {ok : Nat → Prop} : ∀ ns : List Int, RepEV ok w 1 (ns.map (IV.int .u8)) (ns.map (Value.int .u8))
  | [] => rfl
  | n :: ns => ⟨[.int .u8 n], ns.map (Value.int .u8), rfl, rfl, rfl, ⟨.int .u8 n, [], rfl, rfl, rfl⟩, repEV_ns ns⟩
theorem does_conv (hat : At H Γ w s a ch) {src dst : TypeId} {x : Operand} (ho : o.op = .convert src dst x) (h : oConv P H ch s src dst x = some r) : Does P o a w Γ r := by
  obtain ⟨y, hy, h⟩ := Option.bind_eq_some_iff.1 h
  have hx := ev_rep hat hy
  rw [← hat.T] at h
  have fin : ∀ (u : Value) (z : IV), (convert src dst (a.eval x)).run P w = .ok u w → Rep Γ w z u → r.1 = z → r.2.1 = Γ.T → Does P o a w Γ r := by
    intro u z hrun hz e1 e2
    refine Does.quiet hat.inv (v := u) ?_ (by rw [e1]; exact hz) e2
    unfold execOp
    simp [ho, hrun]
  unfold aconv at h
  split at h
  · rename_i ds k k' n hs hd
    obtain ⟨z, h1, rfl⟩ := rdv_some h
    cases h1
    refine fin (.int k (k.wrap n)) (.int k (k.wrap n)) ?_ rfl rfl rfl
    rw [rep_int hx]
    simp [convert, run_underlying hs, run_underlying hd, Conv.intToInt]
  · rename_i ds b hs hd
    obtain ⟨z, h1, rfl⟩ := rdv_some h
    cases h1
    refine fin (.string ⟨b.toArray⟩) (.str b) ?_ rfl rfl rfl
    rw [rep_str hx]
    simp [convert, run_underlying hs, run_underlying hd]
  · rename_i _ e hs hd _
    split at h
    · rename_i he
      obtain ⟨z, h1, rfl⟩ := rdv_some h
      obtain ⟨⟨nl, cl, ez, l⟩, h2, h3⟩ := Option.bind_eq_some_iff.1 h1
      simp only at h3
      split at h3
      · rename_i hz
        obtain ⟨bs, h4, rfl⟩ := Option.map_eq_some_iff.1 h3
        obtain ⟨ns, rfl, rfl⟩ := bytesOfIV_eq h4
        obtain ⟨A, c, e1, e2, e3, _⟩ := slc_rep hat.inv h2 hx
        refine fin (.string ⟨(ns.map fun (n : Int) => UInt8.ofNat n.toNat).toArray⟩) (.str _) ?_ rfl rfl rfl
        rw [e1]
        have key : ∀ g o', A = some ⟨g, o', none⟩ → (∀ (j : Nat) (v : Value), (ns.map (Value.int .u8))[j]? = some v → w.cell? ⟨g, o' + j, none⟩ = some v) →
            (convert src dst (.slice A (ns.map (IV.int .u8)).length c)).run P w = .ok (.string ⟨(ns.map fun n => UInt8.ofNat n.toNat).toArray⟩) w := by
          intro g o' hA hc
          rw [hA]
          exact run_convert_bytes_arg w src e hs he g o' _ c ns (by simp) (fun i hi => by
            simp at hi
            exact hc i _ (by simp [List.getD, List.getElem?_eq_getElem hi])) dst hd
        rcases e3 with e3 | ⟨g, o', hA, _, hes⟩
        · have : ns = [] := by simpa using e3
          subst this
          cases A with
          | none =>
            exact run_convert_bytes_nil (P := P) w src e hs he 0 c dst hd
          | some A =>
            obtain ⟨g, o', sp⟩ := A
            rw [run_convert_bytes_string w src dst e _ _ c hs he hd]
            have := run_bytesToString (P := P) w ⟨g, o', sp⟩ 0 c [] (by simp [loadCells, loadCellsFrom])
            exact this
        · obtain ⟨vs, k1, k2⟩ := repEs_vals hes
          have := repEV_ints k1
          subst this
          exact key g o' hA k2
      · cases h3
    · cases h
  · rename_i e b hs hd
    split at h
    · rename_i he
      obtain ⟨z, h1, rfl⟩ := rdv_some h
      cases h1
      have hrun := run_bytes_of_string (P := P) w src dst e ⟨b.toArray⟩ hs hd he
      have hsz : (⟨b.toArray⟩ : ByteArray).size = b.length := by simp [ByteArray.size]
      have hq : ∀ x : Obj, Quiet w (w.drew.alloc x) := fun x => ⟨rfl, rfl, rfl, by simp⟩
      have ho2 : ∀ x : Obj, ∀ g, g < w.heap.size → (w.drew.alloc x).heap[g]? = w.heap[g]? := fun x g hg => alloc_old w.drew x g hg
      have hlt : ∀ x : Obj, w.heap.size < (w.drew.alloc x).heap.size := fun x => by simp
      generalize hrow : bytesRow ⟨b.toArray⟩ (grownCap w (⟨b.toArray⟩ : ByteArray).size 0 e) = row at hrun
      refine ⟨_, .slice (some ⟨w.heap.size, 0, none⟩) b.length (grownCap w (⟨b.toArray⟩ : ByteArray).size 0 e), _, Γ.grow w.heap.size, ?_, .inl rfl, rfl, step_grow hat.inv (hq (.cells row e (row.size, row.size + 1))) (ho2 _) (hlt _), ?_⟩
      · rw [hsz] at hrun
        unfold execOp
        simp [ho, rep_str hx, hrun, hsz]
      · simp only [Rep, RepC]
        have hlen : (u8s b).length = b.length := by simp [u8s]
        refine ⟨some ⟨w.heap.size, 0, none⟩, grownCap w (⟨b.toArray⟩ : ByteArray).size 0 e, by rw [hlen], by rw [hlen, ← hsz]; exact grownCap_ge _ _ _ _, by simp, by simp, by simp, .inr ⟨w.heap.size, 0, rfl, .inr rfl, ?_⟩⟩
        refine repEs_of (repEV_bytes b) fun j v hj => ?_
        have hlt2 : j < b.length := by simpa using (List.getElem?_eq_some_iff.1 hj).1
        rw [Nat.zero_add]
        refine (World.cell?_alloc_mark w.drew _ _ _ j).trans ?_
        rw [← hrow]
        simp only [bytesRow]
        rw [Array.getElem?_append_left (by simpa using hlt2)]
        simpa using hj
    · cases h
  · rename_i e e' b ver hs hd
    split at h
    · rename_i z cs hsd he hown
      split at h
      · rename_i hc
        obtain ⟨rfl, h0, hby⟩ := hc
        cases h
        have hsd' : src = dst := by simpa using hsd
        subst hsd'
        have hb := own_row hown
        have hv := hx
        simp only [Rep, RefO] at hv
        obtain ⟨_, _, hv⟩ := hv
        obtain ⟨A, c, ev, hnc, _, hA⟩ := (hv _ _ _ _ hb).2 rfl
        rcases hA with ⟨g, arr0, ty0, hρ, rfl, hh0, _⟩ | ⟨hA, _⟩
        case inr => rw [hA] at h0; cases h0
        rcases hat.inv.row b _ _ _ _ hb with ⟨k1, _⟩ | ⟨g', arr, ty, hρ', hh, hsz, hes, _⟩
        · rw [hρ] at k1; cases k1
        rw [hρ] at hρ'
        cases hρ'
        have hrun := run_mark (P := P) w src e hs he g cs.length c hh
        have hglt : g < w.heap.size := (Array.getElem?_eq_some_iff.1 hh).1
        have hq : Quiet w (w.freeze ⟨g, arr.size, none⟩ 1) := ⟨by simp [World.freeze], by simp [World.freeze], by simp [World.freeze], by simp [World.freeze]⟩
        have hold : ∀ g', g' < w.heap.size → some g ≠ some g' → (w.freeze ⟨g, arr.size, none⟩ 1).heap[g']? = w.heap[g']? := by
          intro g' _ hne
          simp only [World.freeze, Nat.one_ne_zero, if_false, Array.getElem?_modify]
          rw [if_neg (fun e => hne (by rw [e]))]
        obtain ⟨bs, hbs⟩ := Option.isSome_iff_exists.1 hby
        obtain ⟨ns, rfl, _⟩ := bytesOfIV_eq hbs
        refine ⟨_, .slice (some ⟨g, 0, none⟩) (ns.map (IV.int .u8)).length c, _, (Γ.set b .dead (some g)).grow g, ?_, .inl rfl, rfl, step_mark hat.inv hq hb rfl trivial hρ hold, ?_⟩
        · have hrun' : (convert src src (a.eval x)).run P w = .ok (.slice (some ⟨g, 0, none⟩) (ns.map (IV.int .u8)).length c) (w.freeze ⟨g, arr.size, none⟩ 1) := by rw [ev]; exact hrun
          unfold execOp
          simp only [ho]
          simp only [Sem.run_bind, hrun', Result.andThen_ok, Sem.run_pure]
        · simp only [Rep, RepC]
          refine ⟨some ⟨g, 0, none⟩, c, rfl, hnc, by simp, by simp, by simp, .inr ⟨g, 0, rfl, .inr rfl, ?_⟩⟩
          obtain ⟨vs, k1, k2⟩ := repEs_vals hes
          have := repEV_ints k1
          subst this
          refine repEs_of (repEV_ns ns) fun j v hj => ?_
          rw [← k2 j v hj, Nat.zero_add]
          simp [World.cell?, World.freeze, Array.getElem?_modify, hh]
      · cases h
    · cases h
  · cases h
end
end Go.Im

namespace Go.Im
open Go
set_option linter.unusedVariables false
set_option linter.unusedSimpArgs false
set_option linter.unnecessarySimpa false
set_option linter.unusedSectionVars false
section
variable {P : Program} {H : Hint} {Γ : Cx} {w : World} {s : St} {a : Act} {ch : List (Nat × Bool)} {o : Oper} {r : IV × List Blk × Kd}

/-- A row more. -/
theorem new_row {w' : World} (hi : Inv Γ w) (hq : Quiet w w') (hold : ∀ g, g < w.heap.size → w'.heap[g]? = w.heap[g]?) {arr : Array Value} {ty : TypeId} (hn : w'.heap[w.heap.size]? = some (.cells arr ty (0, 0)))
    {e c : Nat} {l : List IV} {vs : List Value} (hev : RepEV Γ.ok w e l vs) (hp : ∀ (j : Nat) (v : Value), vs[j]? = some v → arr[j]? = some v) (hs : arr.size = c * e) (hlc : l.length ≤ c) (hcm : c ≤ maxLen) :
    Step Γ w (Γ.add (.row 0 false e l) (some w.heap.size)) w' ∧ Rep (Γ.add (.row 0 false e l) (some w.heap.size)) w' (.osl Γ.T.length 0) (.slice (some ⟨w.heap.size, 0, none⟩) l.length c) := by
  refine ⟨step_new hi hq hold (fun g h => by cases h; exact Nat.le_refl _) ?_, ?_⟩
  · refine .inr ⟨w.heap.size, arr, ty, rfl, hn, by rw [hs]; exact Nat.mul_le_mul_right _ hlc, ?_, (fun h => by cases h), fun _ h => ?_⟩
    · refine repEs_of (RepEV.mono (fun g hg => ⟨hg, hold g (hi.okb g hg)⟩) hev) fun j v hj => ?_
      rw [Nat.zero_add, cell_row hn]
      exact hp j v hj
    · exact absurd (hi.okb _ h) (Nat.lt_irrefl _)
  · simp only [Rep, RefO]
    refine ⟨by simp [Cx.add], rfl, fun ver fz e' l' h => ?_⟩
    simp only [Cx.add] at h ⊢
    rw [List.getElem?_append_right (Nat.le_refl _)] at h
    simp at h
    obtain ⟨rfl, rfl, rfl, rfl⟩ := h
    refine ⟨Nat.le_refl _, fun _ => ⟨_, c, rfl, hlc, hcm, .inl ⟨w.heap.size, arr, ty, ?_, rfl, hn, hs⟩⟩⟩
    rw [List.getElem?_append_right (by rw [hi.len]; exact Nat.le_refl _)]
    simp [hi.len]

theorem madeCells_eq {z : Array Value} : ∀ n : Nat, (madeCells z (n * z.size)).toList = (List.replicate n z.toList).flatten
  | 0 => by simp [madeCells]
  | n + 1 => by
    have ih := madeCells_eq (z := z) n
    simp only [madeCells, Array.toList_map, Array.toList_range] at ih ⊢
    rw [List.replicate_succ, List.flatten_cons, ← ih, show (n + 1) * z.size = z.size + n * z.size by rw [Nat.add_mul]; omega, List.range_add, List.map_append, List.map_map]
    congr 1
    · apply List.ext_getElem
      · simp
      · intro i h1 h2
        simp at h1
        simp [Nat.mod_eq_of_lt h1, h1]
    · apply List.map_congr_left
      intro i _
      simp

theorem zcells_len (z : Value) : (zcells z).length = z.cells.size := by
  have := repL_len _ _ (repL_zcells ⟨fun _ => False, [], []⟩ ⟨#[], default, default, default, default⟩ z)
  simpa using this.symm


theorem elem_some {t e : TypeId} (h : elemOf P t = some e) : P.underlying t = some (.slice e) := by
  unfold elemOf at h
  split at h
  · rename_i e' he
    cases h
    exact he
  · cases h

theorem repCL_zcells {ok : Nat → Prop} {z : Value} (h : cellsOK (zcells z) = true) : RepCL ok w (zcells z) z.cells.toList := by
  have hone : ∀ v : Value, RepC ok w (leafOf v) v := by
    intro v
    unfold leafOf
    split <;> first | (simp [RepC]; done) | (simp [RepC]; exact ⟨none, 0, ⟨rfl, rfl⟩, rfl, rfl⟩)
  have hl : ∀ vs : List Value, RepCL ok w (vs.map leafOf) vs := by
    intro vs
    induction vs with
    | nil => rfl
    | cons v vs ih =>
      simp only [List.map_cons, RepCL]
      exact ⟨v, vs, rfl, hone v, ih⟩
  have key : ∀ y : IV, (∀ l, y ≠ .agg l) → RepC ok w y z → z.cells = #[z] → RepCL ok w y.cells z.cells.toList := by
    intro y hy hr hz
    have hc : y.cells = [y] := by cases y <;> simp_all [IV.cells]
    rw [hc, hz]
    simp only [RepCL]
    exact ⟨z, [], rfl, hr, rfl⟩
  have hlf : ∀ v : Value, ∀ l, leafOf v ≠ .agg l := by
    intro v l
    unfold leafOf
    split <;> simp
  unfold zcells at h ⊢
  cases z with
  | agg vs => exact hl vs.toList
  | tuple vs => simp [ofVal, IV.cells, cellsOK, leaf] at h
  | bool b => exact key _ (by simp [ofVal, leafOf]) (hone (.bool b)) rfl
  | int k n => exact key _ (by simp [ofVal, leafOf]) (hone (.int k n)) rfl
  | string s => exact key _ (by simp [ofVal, leafOf]) (hone (.string s)) rfl
  | _ => exact key _ (by unfold ofVal; exact hlf _) (by unfold ofVal; exact hone _) rfl

theorem does_make (hat : At H Γ w s a ch) {t : TypeId} {l c : Operand} (ho : o.op = .makeSlice t l c) (h : oMake P H ch s t l c = some r) : Does P o a w Γ r := by
  obtain ⟨y, hy, h⟩ := Option.bind_eq_some_iff.1 h
  have hx := ev_rep hat hy
  rw [← hat.T] at h
  unfold amake at h
  split at h
  · rename_i e k n he
    split at h
    · rename_i z size bytes hlc hinf
      obtain ⟨i, hi, hz, rfl, rfl⟩ := info_some hinf
      split at h
      · rename_i hbd
        obtain ⟨b1, b2, b3⟩ := hbd
        split at h
        · rename_i hck
          simp only [Bool.and_eq_true, Nat.beq_eq] at hck
          obtain ⟨hck, hzl⟩ := hck
          cases h
          have hl : a.eval l = .int k n := rep_int hx
          have hc : ∃ k', a.eval c = .int k' n := by
            split at hlc
            · rename_i p q
              have : p = q := by simpa using hlc
              subst this
              exact ⟨k, hl⟩
            · rename_i k1 p k2 q
              have : p = q := by simpa using hlc
              subst this
              simp only [Act.eval] at hl ⊢
              cases hl
              exact ⟨k2, rfl⟩
            · cases hlc
          obtain ⟨k', hc⟩ := hc
          have hzs : z.cells.size = i.size := by rw [← zcells_len, hzl]
          have hbb : (i.bytes : Int) * n ≤ 281474976710656 := by
            have : n * (i.bytes : Int) ≤ 140737488355328 := b2
            rw [Int.mul_comm]; omega
          have hrun := run_make (P := P) w t e i z (elem_some he) hi hz k k' n n b1 (Int.le_refl _) hbb b3
          have hev : RepEV Γ.ok w i.size (List.replicate n.toNat (ofVal z)) (madeCells z.cells (n.toNat * i.size)).toList := by
            rw [← hzs, madeCells_eq]
            exact repEV_rep (zcells_len z) hck (repCL_zcells hck) _
          obtain ⟨k1, k2⟩ := new_row (w' := w.alloc (.cells (madeCells z.cells (n.toNat * i.size)) e)) hat.inv (quiet_alloc w _) (alloc_old w _) (heap_alloc_new w _) hev (c := n.toNat)
            (fun j v hj => by rw [← Array.getElem?_toList]; exact hj) (size_madeCells _ _) (by simp) (by simp only [maxLen]; omega)
          refine ⟨_, .slice (some ⟨w.heap.size, 0, none⟩) n.toNat n.toNat, _, _, ?_, .inl rfl, ?_, k1, ?_⟩
          · unfold execOp
            simp [ho, hl, hc, hrun]
          · simp [Cx.add]
          · simpa using k2
        · cases h
      · cases h
    · cases h
  · cases h

/-! ### Literals -/
theorem fold_set : ∀ (l : List Value) (k off : Nat) (cells : Array Value), (l.zipIdx k).foldl (fun cs x => cs.setIfInBounds (off + x.2) x.1) cells = (listSetRange cells.toList (off + k) l).toArray
  | [], k, off, cells => by simp [listSetRange]
  | v :: l, k, off, cells => by
    rw [List.zipIdx_cons, List.foldl_cons, fold_set l]
    simp [listSetRange, Nat.add_assoc]

theorem fill_cons {place : Nat → Option (Nat × Nat)} {cells : List Value} {i off size : Nat} {v : Value} {rest : List (Nat × Value)} (hp : place i = some (off, size)) (h1 : v.cells.size = size) (h2 : off + v.cells.size ≤ cells.length) :
    Instr.fill place cells.toArray ((i, v) :: rest) = Instr.fill place (listSetRange cells off v.cells.toList).toArray rest := by
  have hf := fold_set v.cells.toList 0 off cells.toArray
  simp only [Nat.add_zero] at hf
  have hz : (Array.foldl (fun cs (x : Value × Nat) => cs.setIfInBounds (off + x.2) x.1) cells.toArray v.cells.zipIdx) = (listSetRange cells off v.cells.toList).toArray := by
    rw [← hf, ← Array.foldl_toList]
    simp
  have hc : ¬ (v.cells.size ≠ size ∨ off + v.cells.size > cells.toArray.size) := by simp; omega
  conv => lhs; unfold Instr.fill
  simp only [hp]
  rw [if_neg (by simpa using hc)]
  exact congrArg (fun c => Instr.fill place c rest) hz

theorem elems_rep {bs' : List Nat} {size : Nat} (hi : Inv Γ w) : ∀ (xs ys : List IV) (bs : List Nat) (vs : List Value), elems Γ.T size xs = some (ys, bs) → (∀ b ∈ bs, b ∈ bs') → RepL Γ w xs vs →
    RepEV (Γ.shut bs').ok w size ys (vs.flatMap fun v => v.cells.toList) ∧ ∀ v ∈ vs, v.cells.size = size
  | [], ys, bs, vs, h, hs, hr => by
    simp only [elems, Option.some.injEq, Prod.mk.injEq] at h
    obtain ⟨rfl, rfl⟩ := h
    simp only [RepL] at hr
    subst hr
    exact ⟨rfl, by simp⟩
  | x :: xs, ys, bs, vs, h, hs, hr => by
    simp only [elems] at h
    split at h
    · rename_i y p ys' q h1 h2
      split at h
      · rename_i hl
        split at h
        · rename_i hc
          cases h
          simp only [RepL] at hr
          obtain ⟨v, us, rfl, hx, hr⟩ := hr
          have hy := frz_rep hi x y p v h1 (fun b hb => hs b (List.mem_append_left _ hb)) hx
          obtain ⟨ws, e1, e2⟩ := cellsC_rep hc hy
          obtain ⟨k1, k2⟩ := elems_rep hi xs ys' q us h2 (fun b hb => hs b (List.mem_append_right _ hb)) hr
          have hwl := repCL_len _ _ e2
          refine ⟨?_, ?_⟩
          · simp only [List.flatMap_cons]
            rw [e1]
            exact ⟨ws, _, rfl, hl, hc, e2, k1⟩
          · intro u hu
            rcases List.mem_cons.1 hu with rfl | hu
            · rw [e1]; simp; omega
            · exact k2 u hu
        · cases h
      · cases h
    · cases h

theorem fill_order {size : Nat} (f : Operand → Value) : ∀ (ps : List (Nat × Operand)) (n : Nat) (cells : List Value), inOrder n ps = true → (∀ p ∈ ps, (f p.2).cells.size = size) → cells.length = (n + ps.length) * size →
    Instr.fill (fun i => some (i * size, size)) cells.toArray (ps.map fun p => (p.1, f p.2)) = some (cells.take (n * size) ++ (ps.map (·.2)).flatMap fun x => (f x).cells.toList).toArray
  | [], n, cells, _, _, hl => by
    simp only [List.map_nil, List.flatMap_nil, List.append_nil]
    rw [List.take_of_length_le (by simpa using Nat.le_of_eq hl)]
    rfl
  | (i, x) :: ps, n, cells, ho, hs, hl => by
    simp only [inOrder, Bool.and_eq_true, beq_iff_eq] at ho
    obtain ⟨rfl, ho⟩ := ho
    have h1 := hs (i, x) (List.mem_cons_self ..)
    simp only at h1
    simp only [List.length_cons] at hl
    have hb : i * size + size ≤ cells.length := by
      rw [hl]
      have := Nat.mul_le_mul_right size (show i + 1 ≤ i + (ps.length + 1) by omega)
      rw [Nat.add_mul, Nat.one_mul] at this
      omega
    simp only [List.map_cons]
    rw [fill_cons rfl h1 (by omega), fill_order f ps (i + 1) _ ho (fun p hp => hs p (List.mem_cons_of_mem _ hp)) (by rw [lsr_length, hl]; congr 1; omega)]
    rw [lsr_eq _ _ _ (by simp; omega)]
    simp only [List.flatMap_cons]
    congr 2
    have h3 : (i + 1) * size = i * size + size := by rw [Nat.add_mul, Nat.one_mul]
    have hcl : (f x).cells.toList.length = size := by simpa using h1
    rw [h3, List.append_assoc, List.take_append, List.take_append, ]
    simp [hcl]
    rw [List.take_of_length_le (by simp; omega)]
    have : i * size + size - min (i * size) cells.length = size := by omega
    rw [this, List.take_of_length_le (Nat.le_of_eq hcl)]
    simp

theorem does_buildSlice (hat : At H Γ w s a ch) {t : TypeId} {len : Nat} {parts : Array (Nat × Operand)} (ho : o.op = .buildSlice t len parts) (h : oBuildSlice P H ch s t len parts.toList = some r) : Does P o a w Γ r := by
  obtain ⟨ys, hy, h⟩ := Option.bind_eq_some_iff.1 h
  have hx := evs_rep hat _ _ hy
  rw [← hat.T] at h
  unfold abuildSlice at h
  split at h
  · rename_i e he
    split at h
    · rename_i z size bytes hinf
      obtain ⟨i, hi, hz, rfl, rfl⟩ := info_some hinf
      split at h
      · rename_i zs bs hel
        split at h
        · rename_i hbd
          simp only [Bool.and_eq_true, beq_iff_eq, decide_eq_true_eq] at hbd
          obtain ⟨⟨⟨b1, b2⟩, b3⟩, b4⟩ := hbd
          cases h
          have S1 := step_shut hat.inv bs
          obtain ⟨k1, k2⟩ := elems_rep (bs' := bs) hat.inv ys zs bs _ hel (fun _ h => h) hx
          have hlz : zs.length = len := by
            have h1 := RepEV.len k1
            have h2 : ∀ (vs : List Value), (∀ v ∈ vs, v.cells.size = i.size) → (vs.flatMap fun v => v.cells.toList).length = vs.length * i.size := by
              intro vs
              induction vs with
              | nil => simp
              | cons v vs ih =>
                intro h
                simp only [List.flatMap_cons, List.length_append, List.length_cons]
                rw [ih (fun u hu => h u (List.mem_cons_of_mem _ hu)), Nat.add_mul]
                have := h v (List.mem_cons_self ..)
                simp [this]; omega
            rw [h2 _ k2] at h1
            simp only [List.length_map] at h1
            rw [← b2]
            exact (Nat.eq_of_mul_eq_mul_right b4 h1).symm
          generalize hfl : (parts.toList.map (·.2)).flatMap (fun x => (a.eval x).cells.toList) = flat
          have hk1 : RepEV (Γ.shut bs).ok w i.size zs flat := by
            rw [← hfl]
            rw [List.flatMap_map] at k1
            exact k1
          have hfill : ∀ cells : Array Value, cells.size = len * i.size → Instr.fill (fun j => some (j * i.size, i.size)) cells (parts.map fun x => (x.1, a.eval x.2)).toList = some flat.toArray := by
            intro cells hc
            have := fill_order (size := i.size) a.eval parts.toList 0 cells.toList b1 (fun p hp => k2 _ (List.mem_map.2 ⟨p.2, List.mem_map.2 ⟨p, hp, rfl⟩, rfl⟩)) (by simp [b2, hc])
            rw [← hfl]
            simpa using this
          have hrun : (Instr.buildSlice t len (parts.map fun x => (x.1, a.eval x.2))).run P w = .ok (.slice (some ⟨w.heap.size, 0, none⟩) len len) (w.alloc (.cells flat.toArray e)) := by
            have hsm : ¬ (len * i.size > 16777216) := by omega
            have hu := run_underlying (P := P) (w := w) (elem_some he)
            have hsz : (sizeOf e).run P w = .ok i.size w := by simp [sizeOf, typeInfo, hi]
            by_cases h0 : len * i.size = 0
            · have h1 : len = 0 := by
                rcases Nat.mul_eq_zero.1 h0 with h | h
                · exact h
                · omega
              have hpe : parts = #[] := by
                have : parts.toList = [] := List.eq_nil_of_length_eq_zero (by omega)
                simpa using this
              subst hpe
              have hf0 : flat = [] := by rw [← hfl]; rfl
              rw [hf0]
              simp [Instr.buildSlice, hu, hsz, h1, Instr.fill, newRow, Array.range_zero']
            · have := hfill ((Array.range (len * i.size)).map (z.cells[· % z.cells.size]!)) (by simp)
              rw [Array.toList_map] at this
              simp [Instr.buildSlice, hu, hsz, h0, hsm, zeroValue, typeInfo, hi, hz, this, newRow]
          have hfs : flat.length = len * i.size := by rw [RepEV.len hk1, hlz]
          have hcm : len ≤ maxLen := by
            have : len * 1 ≤ len * i.size := Nat.mul_le_mul_left _ b4
            simp only [maxLen]; omega
          obtain ⟨n1, n2⟩ := new_row (w' := w.alloc (.cells flat.toArray e)) S1.inv (quiet_alloc w _) (alloc_old w _) (heap_alloc_new w _) hk1 (c := len) (fun j v hj => by simpa using hj) (by simpa using hfs) (by omega) hcm
          refine ⟨_, .slice (some ⟨w.heap.size, 0, none⟩) len len, _, _, ?_, .inl rfl, ?_, S1.trans n1, ?_⟩
          · unfold execOp
            simp [ho, hrun]
          · simp [Cx.add, Cx.shut]
          · rw [hlz] at n2
            have hT : (Γ.shut bs).T.length = Γ.T.length := shut_len _ _
            rw [hT] at n2
            exact n2
        · cases h
      · cases h
    · cases h
  · cases h
end
end Go.Im

namespace Go.Im
open Go
set_option linter.unusedVariables false
set_option linter.unusedSimpArgs false
set_option linter.unnecessarySimpa false
set_option linter.unusedSectionVars false
section
variable {P : Program} {H : Hint} {Γ : Cx} {w : World} {s : St} {a : Act} {ch : List (Nat × Bool)} {o : Oper} {r : IV × List Blk × Kd}

theorem placesL_eq : ∀ (fs : List Field) (ps : List (Nat × Nat)), placesL P fs = some ps → fs.mapM (fun f => (P.info? f.type).map fun i => (f.offset, i.size)) = some ps
  | [], ps, h => by simp only [placesL, Option.some.injEq] at h; subst h; rfl
  | f :: fs, ps, h => by
    simp only [placesL] at h
    split at h
    · rename_i i r h1 h2
      cases h
      simp [List.mapM_cons, h1, placesL_eq fs r h2]
    · cases h

theorem fill_rep {place : Nat → Option (Nat × Nat)} : ∀ (is : List Nat) (ys : List IV) (vs : List Value) (cells cs : List IV) (zs : List Value), fillIV place cells (is.zip ys) = some cs → RepL Γ w cells zs → RepL Γ w ys vs →
    ∃ zs' : List Value, Instr.fill place zs.toArray (is.zip vs) = some zs'.toArray ∧ RepL Γ w cs zs'
  | [], ys, vs, cells, cs, zs, h, hz, hy => by
    simp only [List.zip_nil_left, fillIV, Option.some.injEq] at h
    subst h
    exact ⟨zs, by simp [Instr.fill], hz⟩
  | i :: is, [], vs, cells, cs, zs, h, hz, hy => by
    simp only [List.zip_nil_right, fillIV, Option.some.injEq] at h
    subst h
    simp only [RepL] at hy
    subst hy
    exact ⟨zs, by simp [Instr.fill], hz⟩
  | i :: is, y :: ys, _, cells, cs, zs, h, hz, hy => by
    simp only [RepL] at hy
    obtain ⟨v, vs, rfl, hv, hy⟩ := hy
    simp only [List.zip_cons_cons, fillIV] at h
    split at h
    · rename_i off size hp
      split at h
      · rename_i hb
        obtain ⟨b1, b2, b3⟩ := hb
        obtain ⟨us, h1, h2, _⟩ := cells_rep b3 hv
        have hul := repL_len _ _ h2
        have hzl := repL_len _ _ hz
        obtain ⟨zs', k1, k2⟩ := fill_rep is ys vs _ cs (listSetRange zs off us) h (repL_lsr hz h2 b2) hy
        refine ⟨zs', ?_, k2⟩
        rw [List.zip_cons_cons, fill_cons hp (by rw [h1]; simp; omega) (by rw [h1]; simp; omega), h1]
        exact k1
      · cases h
    · cases h

theorem zip_eval (f : Operand → Value) : ∀ l : List (Nat × Operand), (l.map (·.1)).zip ((l.map (·.2)).map f) = l.map fun p => (p.1, f p.2)
  | [] => rfl
  | p :: l => by
    have := zip_eval f l
    simp only [List.map_cons, List.zip_cons_cons, this]

theorem does_build (hat : At H Γ w s a ch) {t : TypeId} {parts : Array (Nat × Operand)} (ho : o.op = .build t parts) (h : oBuild P H ch s t parts.toList = some r) : Does P o a w Γ r := by
  obtain ⟨z, h1, rfl⟩ := rdv_some h
  obtain ⟨ys, h2, h3⟩ := Option.bind_eq_some_iff.1 h1
  have hx := evs_rep hat _ _ h2
  have fin : ∀ zs : List Value, P.built t (parts.map fun x => (x.1, a.eval x.2)).toList = some zs.toArray → Rep Γ w z (.agg zs.toArray) → Does P o a w Γ (z, s.bx, .rd []) := by
    intro zs hb hr
    refine Does.quiet hat.inv (v := .agg zs.toArray) ?_ hr hat.T.symm
    have := run_build (P := P) w t _ _ hb
    unfold execOp
    simp [ho, this]
  unfold abuild at h3
  split at h3
  · rename_i fs zv size bytes ht hinf
    obtain ⟨i, hi, hz, rfl, rfl⟩ := info_some hinf
    split at h3
    · rename_i ps hps
      obtain ⟨cs, h4, rfl⟩ := Option.map_eq_some_iff.1 h3
      obtain ⟨zs', k1, k2⟩ := fill_rep _ ys _ _ cs _ h4 (repL_zcells Γ w zv) hx
      refine fin zs' ?_ (by simp only [Rep]; exact ⟨zs', rfl, k2⟩)
      unfold Program.built
      simp only [hi, ht, hz, placesL_eq _ _ hps, Array.toList_map]
      rw [← zip_eval]
      simpa using k1
    · cases h3
  · rename_i n e zv size bytes ht hinf
    obtain ⟨i, hi, hz, rfl, rfl⟩ := info_some hinf
    split at h3
    · rename_i ie hie
      obtain ⟨cs, h4, rfl⟩ := Option.map_eq_some_iff.1 h3
      obtain ⟨zs', k1, k2⟩ := fill_rep _ ys _ _ cs _ h4 (repL_zcells Γ w zv) hx
      refine fin zs' ?_ (by simp only [Rep]; exact ⟨zs', rfl, k2⟩)
      unfold Program.built
      simp only [hi, ht, hz, hie, Array.toList_map]
      rw [← zip_eval]
      simpa using k1
    · cases h3
  · cases h3

/-! ### What is appended -/
theorem wrap_i64_in {m : Int} (h0 : 0 ≤ m) (h1 : m ≤ 9223372036854775807) : IntKind.i64.wrap m = m := by
  have e : m % (2 ^ 64 : Int) = m := Int.emod_eq_of_lt h0 (by omega)
  have e1 : ¬ (m ≥ (2 ^ (64 - 1) : Int)) := by
    have : (2 ^ (64 - 1) : Int) = 9223372036854775808 := by decide
    omega
  simp only [IntKind.wrap, IntKind.signed, IntKind.bits, Bool.true_and, e]
  exact if_neg (by simpa using e1)

/-- Where what is appended comes from. -/
def Src (P : Program) (u : TypeId) (i : TypeInfo) (z : Value) (v : Value) (n : Nat) (news : List Value) (W : World → Prop) : Prop :=
  (((∃ e', P.underlying u = some (.slice e')) ∨ P.underlying u = some .string) ∧ ∀ w2, W w2 → (Builtin.lenOf v).run P w2 = .ok n w2 ∧ (Builtin.firstCells i.size n v).run P w2 = .ok news.toArray w2) ∨
  (∃ k k' m, P.underlying u = some (.int k) ∧ v = .int k' m ∧ 0 ≤ m ∧ m ≤ 9223372036854775807 ∧ m * i.bytes ≤ 281474976710656 ∧ n = m.toNat ∧ news = (Builtin.zeroCells z.cells n).toList)

theorem anew_rep {i : TypeInfo} {zv : Value} {u : TypeId} {x : IV} {v : Value} {new : List IV} (hi : Inv Γ w) (hzs : zv.cells.size = i.size) (h : anew P Γ.T zv i.size i.bytes u x = some new) (hr : Rep Γ w x v) :
    ∃ news : List Value, RepEV Γ.ok w i.size new news ∧ Src P u i zv v new.length news (fun w2 => w2.heap = w.heap) := by
  unfold anew at h
  split at h
  · rename_i e hu
    split at h
    · rename_i nl cl z l hs
      split at h
      · rename_i hz
        cases h
        obtain ⟨A, c, rfl, e2, e3, _⟩ := slc_rep hi hs hr
        rcases e3 with rfl | ⟨g, o', rfl, _, hes⟩
        · refine ⟨[], rfl, .inl ⟨.inl ⟨_, hu⟩, fun w2 _ => ⟨by simp [Builtin.lenOf], ?_⟩⟩⟩
          cases A <;> simp [Builtin.firstCells, loadCells, loadCellsFrom]
        · by_cases hl0 : new.length = 0
          · have : new = [] := List.eq_nil_of_length_eq_zero hl0
            subst this
            exact ⟨[], rfl, .inl ⟨.inl ⟨_, hu⟩, fun w2 _ => ⟨by simp [Builtin.lenOf], by simp [Builtin.firstCells, loadCells, loadCellsFrom]⟩⟩⟩
          · have hzs : z = i.size := by
              rcases hz with h | h
              · exact h
              · exact absurd h hl0
            subst hzs
            obtain ⟨news, k1, k2⟩ := repEs_vals hes
            refine ⟨news, k1, .inl ⟨.inl ⟨_, hu⟩, fun w2 hw => ⟨by simp [Builtin.lenOf], ?_⟩⟩⟩
            refine run_firstCells_some w2 i.size new.length _ _ _ news (RepEV.len k1) fun j v hj => ?_
            rw [add_lit']
            have := k2 j v hj
            simpa [World.cell?, hw] using this
      · cases h
    · cases h
  · rename_i b hu
    split at h
    · rename_i h1
      cases h
      have := rep_str hr
      subst this
      refine ⟨_, by rw [h1]; exact repEV_bytes b, .inl ⟨.inr hu, fun w2 _ => ⟨by simp [Builtin.lenOf, u8s, ByteArray.size], ?_⟩⟩⟩
      have hex : (⟨b.toArray⟩ : ByteArray).extract 0 (u8s b).length = ⟨b.toArray⟩ := by
        apply ByteArray.ext
        rw [ByteArray.data_extract]
        simp [u8s]
      simp [Builtin.firstCells, hex]
    · cases h
  · rename_i k k' m hu
    split at h
    · rename_i hb
      obtain ⟨b1, b2, b3⟩ := hb
      split at h
      · rename_i hck
        cases h
        have := rep_int hr
        subst this
        refine ⟨(Builtin.zeroCells zv.cells m.toNat).toList, ?_, .inr ⟨k, k', m, hu, rfl, b1, b3, ?_, by simp, by simp⟩⟩
        · have e : Builtin.zeroCells zv.cells m.toNat = madeCells zv.cells (m.toNat * zv.cells.size) := rfl
          rw [e, madeCells_eq]
          rw [← hzs]
          exact repEV_rep (zcells_len zv) hck (repCL_zcells hck) _
        · have : m * (i.bytes : Int) ≤ 140737488355328 := b2
          omega
      · cases h
    · cases h
  · cases h

theorem run_append_fit {t u ty e : TypeId} {i : TypeInfo} {z : Value} (ht : P.underlying t = some (.slice e)) (hi : P.info? e = some i) (hz : i.zero = some z) (hzs : z.cells.size = i.size)
    {A : Option Addr} {sLen sCap n : Nat} {v : Value} {news : List Value} (hsrc : Src P u i z v n news (fun w2 => w2.heap = w.heap)) (hroom : sLen + n ≤ sCap) {w' : World}
    (hst : ∀ a, A = some a → (storeCells (a.add (sLen * i.size)) news).run P w = .ok () w') (hno : A = none → w' = w) :
    (Builtin.append_ #[t, u] ty #[.slice A sLen sCap, v]).run P w = .ok (.slice A (sLen + n) sCap) w' := by
  rcases hsrc with ⟨hu, hlf⟩ | ⟨k, k', m, hu, rfl, b1, b2, b3, rfl, rfl⟩
  · obtain ⟨hl, hf⟩ := hlf w rfl
    cases A with
    | none =>
      obtain rfl := hno rfl
      rcases hu with ⟨e', hu⟩ | hu <;> simp [Builtin.append_, run_underlying ht, run_underlying hu, sizeOf, typeInfo, hi, hl, hroom, hf]
    | some a =>
      have := hst a rfl
      rcases hu with ⟨e', hu⟩ | hu <;> simp [Builtin.append_, run_underlying ht, run_underlying hu, sizeOf, typeInfo, hi, hl, hroom, hf, this]
  · have hw := wrap_i64_in b1 b2
    have c1 : ¬ m < 0 := by omega
    have c2 : ¬ (281474976710656 < m * (i.bytes : Int)) := by omega
    have hz0 : m.toNat * i.size = 0 → Builtin.zeroCells z.cells m.toNat = #[] := fun h0 => Array.eq_empty_of_size_eq_zero (by rw [size_zeroCells, hzs]; exact h0)
    by_cases h0 : m.toNat * i.size = 0
    · rw [hz0 h0] at hst
      have h0' := h0
      rw [Nat.mul_eq_zero] at h0'
      cases A with
      | none =>
        obtain rfl := hno rfl
        simp [Builtin.append_, run_underlying ht, run_underlying hu, sizeOf, typeInfo, zeroValue, hi, hz, hroom, asInt, asIntOf, hw, c1, c2, h0']
      | some a =>
        have := hst a rfl
        simp at this
        simp [Builtin.append_, run_underlying ht, run_underlying hu, sizeOf, typeInfo, zeroValue, hi, hz, hroom, asInt, asIntOf, hw, c1, c2, h0', this]
        exact fun hx => absurd h0 hx
    · have h0' := h0
      rw [Nat.mul_eq_zero] at h0'
      cases A with
      | none =>
        obtain rfl := hno rfl
        simp [Builtin.append_, run_underlying ht, run_underlying hu, sizeOf, typeInfo, zeroValue, hi, hz, hroom, asInt, asIntOf, hw, c1, c2, h0']
      | some a =>
        have := hst a rfl
        simp [Builtin.append_, run_underlying ht, run_underlying hu, sizeOf, typeInfo, zeroValue, hi, hz, hroom, asInt, asIntOf, hw, c1, c2, h0', this]
        exact fun hx => absurd hx h0

theorem run_append_more {t u ty e : TypeId} {i : TypeInfo} {z : Value} (ht : P.underlying t = some (.slice e)) (hi : P.info? e = some i) (hz : i.zero = some z) (hzs : z.cells.size = i.size)
    {A : Option Addr} {sLen sCap n : Nat} {v : Value} {olds news : List Value} (hsrc : Src P u i z v n news (fun w2 => w2.heap = w.heap))
    (hfo : (Builtin.firstCells i.size sLen (.slice A sLen sCap)).run P w.drew = .ok olds.toArray w.drew)
    (hg : sCap < sLen + n) (h63 : sLen + n ≤ maxLen) (hfit : Builtin.nextslicecap (sLen + n) sCap * i.bytes ≤ 281474976710656) :
    (Builtin.append_ #[t, u] ty #[.slice A sLen sCap, v]).run P w =
      .ok (.slice (some ⟨w.heap.size, 0, none⟩) (sLen + n) (grownCap w (sLen + n) sCap e))
        (w.drew.alloc (.cells (olds.toArray ++ news.toArray ++ (Builtin.zeroCells z.cells (grownCap w (sLen + n) sCap e - (sLen + n)))) e)) := by
  have hn : ¬ (sLen + n ≤ sCap) := by omega
  have h63' : ¬ (9223372036854775807 < ((sLen : Int) + (n : Int))) := by simp only [maxLen] at h63; omega
  have h48' : ¬ (281474976710656 < Builtin.nextslicecap (sLen + n) sCap * i.bytes) := by omega
  rcases hsrc with ⟨hu, hlf⟩ | ⟨k, k', m, hu, rfl, b1, b2, b3, rfl, rfl⟩
  · obtain ⟨hl, _⟩ := hlf w rfl
    obtain ⟨_, hf⟩ := hlf w.drew rfl
    rcases hu with ⟨e', hu⟩ | hu
    · simp [Builtin.append_, run_underlying ht, run_underlying hu, sizeOf, typeInfo, zeroValue, hi, hz, hl, hn, h63', h48', Question.forced, hf, hfo, newRow, grownCap]
      congr 2
      apply Array.ext'
      simp [List.append_assoc]
    · simp [Builtin.append_, run_underlying ht, run_underlying hu, sizeOf, typeInfo, zeroValue, hi, hz, hl, hn, h63', h48', Question.forced, hf, hfo, newRow, grownCap]
      congr 2
      apply Array.ext'
      simp [List.append_assoc]
  · have hw := wrap_i64_in b1 b2
    have c1 : ¬ m < 0 := by omega
    have c2 : ¬ (281474976710656 < m * (i.bytes : Int)) := by omega
    have hmx : ¬ (9223372036854775807 < (sLen : Int) + max m 0) := by omega
    have hz0 : m.toNat * i.size = 0 → Builtin.zeroCells z.cells m.toNat = #[] := fun h0 => Array.eq_empty_of_size_eq_zero (by rw [size_zeroCells, hzs]; exact h0)
    by_cases h0 : m.toNat * i.size = 0
    · rw [hz0 h0]
      have h0' := h0
      rw [Nat.mul_eq_zero] at h0'
      simp [Builtin.append_, run_underlying ht, run_underlying hu, sizeOf, typeInfo, zeroValue, hi, hz, hn, h63', h48', Question.forced, hfo, newRow, grownCap, asInt, asIntOf, hw, c1, c2, h0']
      rw [if_neg hmx, if_pos h0]
    · have h0' := h0
      rw [Nat.mul_eq_zero] at h0'
      simp [Builtin.append_, run_underlying ht, run_underlying hu, sizeOf, typeInfo, zeroValue, hi, hz, hn, h63', h48', Question.forced, hfo, newRow, grownCap, asInt, asIntOf, hw, c1, c2, h0']
      rw [if_neg hmx, if_neg h0]
end
end Go.Im

namespace Go.Im
open Go
set_option linter.unusedVariables false
set_option linter.unusedSimpArgs false
set_option linter.unnecessarySimpa false
set_option linter.unusedSectionVars false
section
variable {P : Program} {H : Hint} {Γ : Cx} {w : World} {s : St} {a : Act} {ch : List (Nat × Bool)} {o : Oper} {r : IV × List Blk × Kd}

theorem prefix_cells {g : Nat} {arr : Array Value} {ty : TypeId} {fr : Nat × Nat} {us : List Value} (h : w.heap[g]? = some (.cells arr ty fr)) (hc : ∀ (j : Nat) (v : Value), us[j]? = some v → w.cell? ⟨g, 0 + j, none⟩ = some v) : us <+: arr.toList := by
  rw [List.prefix_iff_eq_take]
  apply List.ext_getElem?
  intro j
  rw [List.getElem?_take]
  split
  · rename_i hj
    rw [List.getElem?_eq_getElem hj]
    have := hc j _ (List.getElem?_eq_getElem hj)
    rw [Nat.zero_add, cell_row h] at this
    simpa using this.symm
  · rename_i hj
    rw [List.getElem?_eq_none (by omega)]

/-- What the grown row is. -/
theorem grown_cells {z : Value} {olds news : List Value} {size n m : Nat} (cap : Nat) (hzs : z.cells.size = size) (ho : olds.length = n * size) (hn : news.length = m * size) (hc : n + m ≤ cap) :
    (olds.toArray ++ news.toArray ++ Builtin.zeroCells z.cells (cap - (n + m))).size = cap * size ∧
      ∀ (j : Nat) (v : Value), (olds ++ news)[j]? = some v → (olds.toArray ++ news.toArray ++ Builtin.zeroCells z.cells (cap - (n + m)))[j]? = some v := by
  refine ⟨?_, fun j v hj => ?_⟩
  · simp only [Array.size_append, List.size_toArray, size_zeroCells, hzs, ho, hn, ← Nat.add_mul]
    congr 1
    omega
  · rw [← Array.getElem?_toList]
    simp only [Array.toList_append]
    rw [List.getElem?_append_left (List.getElem?_eq_some_iff.1 hj).1]
    exact hj

theorem append_rep {t u ty : TypeId} {x y : IV} {p q : Value} (hi : Inv Γ w) (h : aappend P Γ.T [t, u] x y = some r) (hx : Rep Γ w x p) (hy : Rep Γ w y q) :
    ∃ v w' Γ', (Builtin.append_ #[t, u] ty #[p, q]).run P w = .ok v w' ∧ Γ'.T = r.2.1 ∧ Step Γ w Γ' w' ∧ Rep Γ' w' r.1 v := by
  unfold aappend at h
  simp only at h
  split at h
  · rename_i e he
    have ht := elem_some he
    split at h
    · rename_i zv size bytes hinf
      obtain ⟨i, hpi, hz, rfl, rfl⟩ := info_some hinf
      split at h
      · rename_i new hnew
        split at h
        · cases h
        · rename_i hzl
          have hzs : zv.cells.size = i.size := by rw [← zcells_len]; exact Nat.eq_of_beq_eq_true hzl
          obtain ⟨news, hev, hsrc⟩ := anew_rep hi hzs hnew hy
          have hnl := RepEV.len hev
          split at h
          · rename_i b ver
            split at h
            · rename_i z l how
              have hb := own_row how
              split at h
              · rename_i hbd
                obtain ⟨rfl, b2, b3, b4⟩ := hbd
                cases h
                have hbl : b < Γ.T.length := (List.getElem?_eq_some_iff.1 hb).1
                simp only [Rep, RefO] at hx
                obtain ⟨A, c, rfl, hlc, hcm, hA⟩ := (hx.2.2 _ _ _ _ hb).2 rfl
                have repO : ∀ (Γ' : Cx) (w' : World) (v : Value) (og : Option Nat), Γ' = Γ.set b (.row (ver + 1) false i.size (l ++ new)) og → v.oneCell' = true →
                    (∃ A c, v = .slice A (l ++ new).length c ∧ (l ++ new).length ≤ c ∧ c ≤ maxLen ∧ ((∃ g arr ty, og = some g ∧ A = some ⟨g, 0, none⟩ ∧ w'.heap[g]? = some (.cells arr ty (0, 0)) ∧ arr.size = c * i.size) ∨ ((l ++ new) = [] ∧ c = 0))) → Rep Γ' w' (.osl b (ver + 1)) v := by
                  intro Γ' w' v og hG h1 hh
                  subst hG
                  simp only [Rep, RefO, Cx.set]
                  refine ⟨by simpa using hbl, h1, fun ver' fz e' l' hT => ?_⟩
                  rw [List.getElem?_set_self hbl] at hT
                  cases hT
                  refine ⟨Nat.le_refl _, fun _ => ?_⟩
                  obtain ⟨A, c, k1, k2, k3, k4⟩ := hh
                  refine ⟨A, c, k1, k2, k3, ?_⟩
                  rcases k4 with ⟨g, arr, ty, k5, k6⟩ | k5
                  · refine .inl ⟨g, arr, ty, ?_, k6⟩
                    rw [List.getElem?_set_self (by rw [hi.len]; exact hbl), k5]
                  · exact .inr k5
                by_cases hroom : l.length + new.length ≤ c
                · rcases hA with ⟨g, arr, ty', hg, rfl, ha, hs⟩ | ⟨hl0, hc0⟩
                  · rcases hi.row b _ _ _ _ hb with ⟨k1, _⟩ | ⟨g', arr', ty2, k1, k2, k3, k4, _, k6⟩
                    · rw [hg] at k1; cases k1
                    · rw [hg] at k1; cases k1
                      rw [ha] at k2; cases k2
                      obtain ⟨us, n1, n2⟩ := repEs_vals k4
                      have hul := RepEV.len n1
                      have hfit : l.length * i.size + news.length ≤ arr.size := by rw [hnl, hs, ← Nat.add_mul]; exact Nat.mul_le_mul_right _ hroom
                      have hst := run_storeCells_at P g (l.length * i.size) ty' news 0 arr w ha (by simpa using hfit) (RepEV.one hev)
                      simp only [Nat.add_zero] at hst
                      generalize hrow : (arr.toList.take (l.length * i.size) ++ news ++ arr.toList.drop (l.length * i.size + news.length)).toArray = row at hst
                      have hrs : row.size = arr.size := by
                        rw [← hrow]
                        simp only [List.size_toArray, List.length_append, List.length_take, List.length_drop, Array.length_toList]
                        omega
                      have hold : ∀ g2, g2 < w.heap.size → some g ≠ some g2 → (w.setRow g row).heap[g2]? = w.heap[g2]? := fun g2 _ hne => setRow_other w g g2 _ (fun e => hne (by rw [e]))
                      have hok : ∀ g2, Γ.ok g2 → Γ.ok g2 ∧ (w.setRow g row).heap[g2]? = w.heap[g2]? := fun g2 h2 => ⟨h2, hold g2 (hi.okb _ h2) (fun e => by cases e; exact k6 rfl h2)⟩
                      have hov : Over w (w.setRow g row) (.row ver false i.size l) (.row (ver + 1) false i.size (l ++ new)) (some g) (some g) := ⟨Nat.le_succ _, fun hv => by omega⟩
                      refine ⟨_, _, Γ.set b (.row (ver + 1) false i.size (l ++ new)) (some g), run_append_fit (w' := w.setRow g row) ht hpi hz hzs hsrc hroom ?_ (fun h => by cases h), rfl, step_set hi (quiet_setRow w g _) hb hg rfl hov hold (.inl rfl) ?_, repO _ _ _ _ rfl rfl ?_⟩
                      · intro ad hAd
                        cases hAd
                        rw [add_lit', Nat.zero_add]
                        exact hst
                      · refine .inr ⟨g, row, ty', rfl, setRow_heap w g arr _ ty' (0, 0) ha, ?_, ?_, (fun h => by cases h), k6⟩
                        · rw [hrs, List.length_append, Nat.add_mul]; omega
                        · refine repEs_of (RepEV.mono hok (RepEV.append n1 hev)) fun j v hj => ?_
                          rw [Nat.zero_add, cell_row (setRow_heap w g arr _ ty' (0, 0) ha), ← hrow, ← Array.getElem?_toList]
                          have hpre := prefix_cells ha n2
                          have htk : arr.toList.take (l.length * i.size) = us := by
                            rw [← hul]
                            exact (List.prefix_iff_eq_take.1 hpre).symm
                          show (arr.toList.take (l.length * i.size) ++ news ++ arr.toList.drop (l.length * i.size + news.length))[j]? = some v
                          rw [htk, List.getElem?_append_left (List.getElem?_eq_some_iff.1 hj).1]
                          exact hj
                      · exact ⟨_, c, by rw [List.length_append], by rw [List.length_append]; exact hroom, hcm, .inl ⟨g, row, ty', rfl, rfl, setRow_heap w g arr _ ty' (0, 0) ha, by rw [hrs, hs]⟩⟩
                  · subst hl0 hc0
                    have hn0 : new = [] := by simpa using hroom
                    subst hn0
                    obtain ⟨og, hog, hbr⟩ := inv_blk hi hb
                    have hnn : news = [] := List.eq_nil_of_length_eq_zero (by simpa using hnl)
                    subst hnn
                    have hov : Over w w (.row ver false i.size []) (.row (ver + 1) false i.size ([] ++ [])) og og := ⟨Nat.le_succ _, fun hv => by omega⟩
                    refine ⟨_, w, Γ.set b (.row (ver + 1) false i.size ([] ++ [])) og, run_append_fit (w' := w) ht hpi hz hzs hsrc (by simp) (fun ad _ => by simp [storeCells]) (fun _ => rfl), rfl,
                      step_set hi ⟨rfl, rfl, rfl, Nat.le_refl _⟩ hb hog rfl hov (fun _ _ _ => rfl) (.inl rfl) ?_, repO _ _ _ _ rfl rfl ⟨A, 0, rfl, Nat.le_refl _, Nat.zero_le _, .inr ⟨rfl, rfl⟩⟩⟩
                    rcases hbr with hbr | ⟨g, arr, ty3, h1, h2, h3, h4, h5, h6⟩
                    · exact .inl ⟨hbr.1, rfl⟩
                    · exact .inr ⟨g, arr, ty3, h1, h2, h3, by simp [RepEs], h5, h6⟩
                · have hc2 : c < l.length + new.length := by omega
                  have holds : ∃ olds : List Value, RepEV Γ.ok w i.size l olds ∧ (Builtin.firstCells i.size l.length (.slice A l.length c)).run P w.drew = .ok olds.toArray w.drew := by
                    rcases hA with ⟨g, arr, ty', hg, rfl, ha, hs⟩ | ⟨hl0, hc0⟩
                    · rcases hi.row b _ _ _ _ hb with ⟨k1, _⟩ | ⟨g', arr', ty2, k1, k2, k3, k4, _, k6⟩
                      · rw [hg] at k1; cases k1
                      · rw [hg] at k1; cases k1
                        obtain ⟨us, n1, n2⟩ := repEs_vals k4
                        refine ⟨us, n1, run_firstCells_some w.drew i.size l.length _ _ _ us (RepEV.len n1) fun j v hj => ?_⟩
                        rw [add_lit']
                        exact n2 j v hj
                    · subst hl0
                      refine ⟨[], rfl, ?_⟩
                      cases A <;> simp [Builtin.firstCells, loadCells, loadCellsFrom]
                  obtain ⟨olds, n1, hfo⟩ := holds
                  have hrun := run_append_more (P := P) (w := w) (ty := ty) ht hpi hz hzs hsrc hfo hc2 b4 (growslice_fits hc2 (by simpa [roomB] using b3))
                  generalize hcap : grownCap w (l.length + new.length) c e = cap at hrun
                  have hcg : l.length + new.length ≤ cap := by rw [← hcap]; exact grownCap_ge _ _ _ _
                  have hcx : cap ≤ maxLen := by rw [← hcap]; exact grownCap_le_maxLen _ _ _ _ b4
                  obtain ⟨m1, m2⟩ := grown_cells cap hzs (RepEV.len n1) hnl hcg
                  generalize olds.toArray ++ news.toArray ++ Builtin.zeroCells zv.cells (cap - (l.length + new.length)) = row at hrun m1 m2
                  obtain ⟨og, hog, hbr⟩ := inv_blk hi hb
                  have hq : Quiet w (w.drew.alloc (.cells row e)) := ⟨rfl, rfl, rfl, by simp⟩
                  have hold : ∀ g2, g2 < w.heap.size → (w.drew.alloc (.cells row e)).heap[g2]? = w.heap[g2]? := fun g2 h2 => alloc_old w.drew _ g2 h2
                  have hnw : (w.drew.alloc (.cells row e)).heap[w.heap.size]? = some (.cells row e (0, 0)) := heap_alloc_new w.drew _
                  have hov : Over w (w.drew.alloc (.cells row e)) (.row ver false i.size l) (.row (ver + 1) false i.size (l ++ new)) og (some w.heap.size) := ⟨Nat.le_succ _, fun hv => by omega⟩
                  refine ⟨_, _, Γ.set b (.row (ver + 1) false i.size (l ++ new)) (some w.heap.size), hrun, rfl, step_set hi hq hb hog rfl hov (fun g2 h2 _ => hold g2 h2) (.inr fun g hg => by cases hg; exact Nat.le_refl _) ?_, repO _ _ _ _ rfl rfl ?_⟩
                  · refine .inr ⟨w.heap.size, row, e, rfl, hnw, by rw [m1, List.length_append]; exact Nat.mul_le_mul_right _ hcg, ?_, (fun h => by cases h), fun _ h => absurd (hi.okb _ h) (Nat.lt_irrefl _)⟩
                    refine repEs_of (RepEV.mono (fun g hg => ⟨hg, hold g (hi.okb g hg)⟩) (RepEV.append n1 hev)) fun j v hj => ?_
                    rw [Nat.zero_add, cell_row hnw]
                    exact m2 j v hj
                  · exact ⟨_, cap, by rw [List.length_append], by rw [List.length_append]; exact hcg, hcx, .inl ⟨w.heap.size, row, e, rfl, rfl, hnw, m1⟩⟩
              · cases h
            · cases h
          · rename_i nl cl z l
            split at h
            · rename_i hbd
              obtain ⟨b0, b1, b2, b3, b4, b5⟩ := hbd
              cases h
              simp only [Rep, RepC] at hx
              obtain ⟨A, c, rfl, hlc, k2, k3, k4, k5⟩ := hx
              have hc : c = l.length := by
                unfold nilOrCut at b0
                split at b0
                · rename_i heq
                  simp only [IV.fsl.injEq] at heq
                  exact k2 heq.2.1
                · cases b0
              subst hc
              by_cases hn0 : new.length = 0
              · have hl0 : l.length = 0 := by omega
                have e1 : new = [] := List.eq_nil_of_length_eq_zero hn0
                have e2 : l = [] := List.eq_nil_of_length_eq_zero hl0
                subst e1 e2
                have hnn : news = [] := List.eq_nil_of_length_eq_zero (by simpa using hnl)
                subst hnn
                refine ⟨_, w, Γ.add (.row 0 false i.size ([] ++ [])) none, run_append_fit (w' := w) ht hpi hz hzs hsrc (by simp) (fun ad _ => by simp [storeCells]) (fun _ => rfl), rfl,
                  step_new hi ⟨rfl, rfl, rfl, Nat.le_refl _⟩ (fun _ _ => rfl) (fun g h => by cases h) (.inl ⟨rfl, rfl⟩), ?_⟩
                simp only [Rep, RefO]
                refine ⟨by simp [Cx.add], rfl, fun ver fz e' l' h => ?_⟩
                simp only [Cx.add] at h
                rw [List.getElem?_append_right (Nat.le_refl _)] at h
                simp at h
                obtain ⟨rfl, rfl, rfl, rfl⟩ := h
                exact ⟨Nat.le_refl _, fun _ => ⟨A, 0, rfl, Nat.le_refl _, Nat.zero_le _, .inr ⟨rfl, rfl⟩⟩⟩
              · have hc2 : l.length < l.length + new.length := by omega
                have holds : ∃ olds : List Value, RepEV Γ.ok w i.size l olds ∧ (Builtin.firstCells i.size l.length (.slice A l.length l.length)).run P w.drew = .ok olds.toArray w.drew := by
                  rcases k5 with hl0 | ⟨g, o', rfl, hok, hes⟩
                  · subst hl0
                    refine ⟨[], rfl, ?_⟩
                    cases A <;> simp [Builtin.firstCells, loadCells, loadCellsFrom]
                  · by_cases hl0 : l.length = 0
                    · have : l = [] := List.eq_nil_of_length_eq_zero hl0
                      subst this
                      exact ⟨[], rfl, by simp [Builtin.firstCells, loadCells, loadCellsFrom]⟩
                    · have : z = i.size := by
                        rcases b1 with h | h
                        · exact h
                        · exact absurd h hl0
                      subst this
                      obtain ⟨us, n1, n2⟩ := repEs_vals hes
                      refine ⟨us, n1, run_firstCells_some w.drew i.size l.length _ _ _ us (RepEV.len n1) fun j v hj => ?_⟩
                      rw [add_lit']
                      exact n2 j v hj
                obtain ⟨olds, n1, hfo⟩ := holds
                have hrun := run_append_more (P := P) (w := w) (ty := ty) ht hpi hz hzs hsrc hfo hc2 b5 (growslice_fits hc2 (by simpa [roomB] using b4))
                generalize hcap : grownCap w (l.length + new.length) l.length e = cap at hrun
                have hcg : l.length + new.length ≤ cap := by rw [← hcap]; exact grownCap_ge _ _ _ _
                have hcx : cap ≤ maxLen := by rw [← hcap]; exact grownCap_le_maxLen _ _ _ _ b5
                obtain ⟨m1, m2⟩ := grown_cells cap hzs (RepEV.len n1) hnl hcg
                generalize olds.toArray ++ news.toArray ++ Builtin.zeroCells zv.cells (cap - (l.length + new.length)) = row at hrun m1 m2
                have hq : Quiet w (w.drew.alloc (.cells row e)) := ⟨rfl, rfl, rfl, by simp⟩
                obtain ⟨q1, q2⟩ := new_row (w' := w.drew.alloc (.cells row e)) hi hq (fun g2 h2 => alloc_old w.drew _ g2 h2) (heap_alloc_new w.drew _) (RepEV.append n1 hev) m2 m1 (by rw [List.length_append]; exact hcg) hcx
                rw [List.length_append] at q2
                exact ⟨_, _, _, hrun, rfl, q1, q2⟩
            · cases h
          · cases h
      · cases h
    · cases h
  · cases h
end
end Go.Im

namespace Go.Im
open Go
set_option linter.unusedVariables false
set_option linter.unusedSimpArgs false
set_option linter.unnecessarySimpa false
set_option linter.unusedSectionVars false
section
variable {P : Program} {H : Hint} {Γ : Cx} {w : World} {s : St} {a : Act} {ch : List (Nat × Bool)} {o : Oper} {r : IV × List Blk × Kd}

theorem repL_one {x : IV} {vs : List Value} (h : RepL Γ w [x] vs) : ∃ v, vs = [v] ∧ Rep Γ w x v := by
  simp only [RepL] at h
  obtain ⟨v, us, rfl, hx, rfl⟩ := h
  exact ⟨v, rfl, hx⟩

theorem repL_two {x y : IV} {vs : List Value} (h : RepL Γ w [x, y] vs) : ∃ v u, vs = [v, u] ∧ Rep Γ w x v ∧ Rep Γ w y u := by
  simp only [RepL] at h
  obtain ⟨v, us, rfl, hx, u, us', rfl, hy, rfl⟩ := h
  exact ⟨v, u, rfl, hx, hy⟩

theorem does_builtin (hat : At H Γ w s a ch) {c : Call} {b : Builtin} {vs : List IV} (ho : o.op = .call c) (hc : c.callee = .builtin b) (hv : evs H ch s c.args.toList = some vs)
    (h : abuiltin P s.bx b c.argTypes.toList vs = some r) : Does P o a w Γ r := by
  have hx := evs_rep hat _ _ hv
  rw [← hat.T] at h
  have fin : ∀ (v : Value) (w' : World) (Γ' : Cx) (cs : Array Bool), (∀ cs, (builtin b c.argTypes o.type cs (c.args.map a.eval)).run P w = .ok (.value v) w') → Γ'.T = r.2.1 → Step Γ w Γ' w' → Rep Γ' w' r.1 v → Does P o a w Γ r := by
    intro v w' Γ' _ hrun h1 h2 h3
    refine ⟨_, v, w', Γ', ?_, .inl rfl, h1, h2, h3⟩
    unfold execOp
    simp [ho, resolve, hc, invoke, hrun]
  unfold abuiltin at h
  split at h
  · split at h
    · rename_i x
      obtain ⟨v, hv1, hx⟩ := repL_one hx
      have ha : c.args.map a.eval = #[v] := by rw [← Array.toList_inj, Array.toList_map, hv1]
      split at h
      · rename_i t hts
        have hta : c.argTypes = #[t] := by
          rw [← Array.toList_inj, hts]
        split at h
        · rename_i ht
          split at h
          · rename_i sb _
            obtain ⟨z, h1, rfl⟩ := rdv_some h
            cases h1
            refine fin (.int .i64 sb.length) w Γ #[] ?_ rfl (Step.refl hat.inv) rfl
            intro cs
            rw [ha, hta, rep_str hx]
            have hl := run_len_string (P := P) w t o.type ⟨sb.toArray⟩ ht
            simp only [builtin, Sem.run_bind, hl, Result.andThen_ok, Sem.run_pure]
            simp [goInt, ByteArray.size]
          · cases h
        · rename_i e ht
          obtain ⟨z, h1, rfl⟩ := rdv_some h
          obtain ⟨n, h2, rfl⟩ := Option.map_eq_some_iff.1 h1
          obtain ⟨A, cc, rfl, _⟩ := slcLen_rep hat.inv h2 hx
          refine fin (.int .i64 n) w Γ #[] ?_ rfl (Step.refl hat.inv) rfl
          intro cs
          rw [ha, hta]
          simp [builtin, Builtin.len_, run_underlying ht, goInt]
        · rename_i n e ht
          obtain ⟨z, h1, rfl⟩ := rdv_some h
          cases h1
          refine fin (.int .i64 n) w Γ #[] ?_ rfl (Step.refl hat.inv) rfl
          intro cs
          rw [ha, hta]
          simp [builtin, Builtin.len_, run_underlying ht, goInt]
        · cases h
      · cases h
    · cases h
  · split at h
    · rename_i x y
      obtain ⟨v, u, hv1, hx, hy⟩ := repL_two hx
      have ha : c.args.map a.eval = #[v, u] := by rw [← Array.toList_inj, Array.toList_map, hv1]
      have hts : ∃ t t', c.argTypes = #[t, t'] := by
        unfold aappend at h
        split at h
        · rename_i t t' hts
          exact ⟨t, t', by rw [← Array.toList_inj, hts]⟩
        · cases h
      obtain ⟨t, t', hts⟩ := hts
      rw [hts] at h
      obtain ⟨v', w', Γ', h1, h2, h3, h4⟩ := append_rep (ty := o.type) hat.inv h hx hy
      refine fin v' w' Γ' #[] ?_ h2 h3 h4
      intro cs
      rw [ha, hts]
      simp [builtin, h1]
    · cases h
  · split at h
    · rename_i k x k' y
      obtain ⟨v, u, hv1, hx, hy⟩ := repL_two hx
      have ha : c.args.map a.eval = #[v, u] := by rw [← Array.toList_inj, Array.toList_map, hv1]
      obtain ⟨z, h1, rfl⟩ := rdv_some h
      cases h1
      refine fin (.int k (if y > x then y else x)) w Γ #[] ?_ rfl (Step.refl hat.inv) ?_
      · intro cs
        rw [ha, rep_int hx, rep_int hy]
        simp [builtin, run_max_int2]
      · simp only [Rep]
        by_cases hh : y > x <;> simp [hh]
    · cases h
  · split at h
    · rename_i k x k' y
      obtain ⟨v, u, hv1, hx, hy⟩ := repL_two hx
      have ha : c.args.map a.eval = #[v, u] := by rw [← Array.toList_inj, Array.toList_map, hv1]
      obtain ⟨z, h1, rfl⟩ := rdv_some h
      cases h1
      refine fin (.int k (if y < x then y else x)) w Γ #[] ?_ rfl (Step.refl hat.inv) ?_
      · intro cs
        rw [ha, rep_int hx, rep_int hy]
        simp [builtin, run_min_int2]
      · simp only [Rep]
        by_cases hh : y < x <;> simp [hh]
    · cases h
  · cases h
end
end Go.Im

namespace Go.Im
open Go
set_option linter.unusedVariables false
set_option linter.unusedSimpArgs false
set_option linter.unnecessarySimpa false
set_option linter.unusedSectionVars false

/-- What a call (or a loop's round) leaves of the first p blocks. -/
structure Fr (p : Nat) (Γ0 : Cx) (w0 : World) (Γ : Cx) (w : World) : Prop where
  inv : Inv Γ w
  frm : Frm Γ0 w0 w
  own : ∀ g, Γ.own g → Γ0.own g ∨ w0.heap.size ≤ g
  okp : ∀ g, Γ.ok g → Γ0.ok g ∨ Γ0.own g ∨ w0.heap.size ≤ g
  liv : ∀ g, Γ.liv g → Γ0.liv g ∨ w0.heap.size ≤ g
  ok : ∀ g, Γ0.ok g → Γ.ok g ∧ w.heap[g]? = w0.heap[g]?
  len : p ≤ Γ.T.length
  var : ∀ b fz cs, b < p → Γ.T[b]? = some (.var fz cs) → ∃ fz0 cs0, Γ0.T[b]? = some (.var fz0 cs0) ∧ cs0.length = cs.length ∧ Γ.ρ[b]? = Γ0.ρ[b]?
  row : ∀ b ver fz e l, b < p → Γ.T[b]? = some (.row ver fz e l) → ∃ ver0 fz0 e0 l0, Γ0.T[b]? = some (.row ver0 fz0 e0 l0) ∧ (ver = 0 → ver0 = 0 ∧ e0 = e ∧ l0.length = l.length ∧ Γ.ρ[b]? = Γ0.ρ[b]? ∧
    ∀ g arr ty, Γ0.ρ[b]? = some (some g) → w0.heap[g]? = some (.cells arr ty (0, 0)) → ∃ arr', w.heap[g]? = some (.cells arr' ty (0, 0)) ∧ arr'.size = arr.size)
  lp : ∀ b j, b < p → Γ.T[b]? = some (.lp j) → ∃ j0, Γ0.T[b]? = some (.lp j0) ∧ Γ.ρ[b]? = Γ0.ρ[b]?

theorem Fr.refl {Γ : Cx} {w : World} {p : Nat} (hi : Inv Γ w) (hp : p ≤ Γ.T.length) : Fr p Γ w Γ w :=
  ⟨hi, ⟨fun _ r h => ⟨r, h, Stat.refl r⟩, rfl, rfl, rfl, Nat.le_refl _, fun _ _ _ => rfl⟩, fun _ h => .inl h, fun _ h => .inl h, fun _ h => .inl h, fun _ h => ⟨h, rfl⟩, hp, fun b fz cs _ h => ⟨fz, cs, h, rfl, rfl⟩, fun b ver fz e l _ h => ⟨ver, fz, e, l, h, fun h0 => ⟨h0, rfl, rfl, rfl, fun _ arr _ _ ha => ⟨arr, ha, rfl⟩⟩⟩, fun b j _ h => ⟨j, h, rfl⟩⟩

theorem Fr.step {Γ0 Γ Γ' : Cx} {w0 w w' : World} {p : Nat} (h : Fr p Γ0 w0 Γ w) (k : Step Γ w Γ' w') : Fr p Γ0 w0 Γ' w' := by
  have hsz := h.frm.size
  refine ⟨k.inv, ⟨fun g r hr => (by
    obtain ⟨r1, h1, s1⟩ := h.frm.lps g r hr
    obtain ⟨r2, h2, s2⟩ := k.frm.lps g r1 h1
    exact ⟨r2, h2, s1.trans s2⟩), k.frm.os.trans h.frm.os, k.frm.tape.trans h.frm.tape, k.frm.output.trans h.frm.output, Nat.le_trans hsz k.frm.size, ?_⟩, ?_, ?_, ?_, fun g hg => ⟨(k.ext.ok g (h.ok g hg).1).1, (k.ext.ok g (h.ok g hg).1).2.trans (h.ok g hg).2⟩, Nat.le_trans h.len k.ext.len, ?_, ?_, ?_⟩
  · intro g hg hn
    rw [k.frm.heap g (by omega) (fun ho => by rcases h.own g ho with h1 | h1; exact hn h1; omega)]
    exact h.frm.heap g hg hn
  · intro g hg
    rcases k.own g hg with h1 | h1
    · exact h.own g h1
    · exact .inr (by omega)
  · intro g hg
    rcases k.okp g hg with h1 | h1 | h1
    · exact h.okp g h1
    · rcases h.own g h1 with h2 | h2
      · exact .inr (.inl h2)
      · exact .inr (.inr h2)
    · exact .inr (.inr (by omega))
  · intro g hg
    rcases k.liv g hg with h1 | h1
    · exact h.liv g h1
    · exact .inr (by omega)
  · intro b fz cs hb hT
    obtain ⟨fz1, cs1, h1, h2, h3⟩ := k.ext.var b fz cs (Nat.lt_of_lt_of_le hb h.len) hT
    obtain ⟨fz0, cs0, g1, g2, g3⟩ := h.var b fz1 cs1 hb h1
    exact ⟨fz0, cs0, g1, g2.trans h2, h3.trans g3⟩
  · intro b ver fz e l hb hT
    obtain ⟨v1, fz1, e1, l1, h1, h2, h3⟩ := k.ext.row b ver fz e l (Nat.lt_of_lt_of_le hb h.len) hT
    obtain ⟨v0, fz0, e0, l0, g1, g2⟩ := h.row b v1 fz1 e1 l1 hb h1
    refine ⟨v0, fz0, e0, l0, g1, fun hv => ?_⟩
    obtain ⟨m1, m2, m3, m4⟩ := h3 (by omega)
    obtain ⟨n1, n2, n3, n4, n5⟩ := g2 (by omega)
    refine ⟨n1, n2.trans m1, n3.trans m2, m3.trans n4, fun g arr ty hg ha => ?_⟩
    obtain ⟨arr', ha', hs'⟩ := n5 g arr ty hg ha
    obtain ⟨arr2, ha2, hs2⟩ := m4 g arr' ty (n4.trans hg) ha'
    exact ⟨arr2, ha2, hs2.trans hs'⟩
  · intro b j hb hT
    obtain ⟨j1, h1, h2⟩ := k.ext.lp b j (Nat.lt_of_lt_of_le hb h.len) hT
    obtain ⟨j0, g1, g2⟩ := h.lp b j1 hb h1
    exact ⟨j0, g1, h2.trans g2⟩

/-! ### Blocks counted anew -/
def Cx.sub (Γ : Cx) (bp : Bool) (q : Nat) (bs : List Nat) : Cx := ⟨Γ.ok, bs.map (renB bp q (idx bs) Γ.T), bs.map fun b => (Γ.ρ[b]?).getD none⟩

theorem idx_some {l : List Nat} {b i : Nat} (h : idx l b = some i) : l[i]? = some b := by
  have h2 : l.idxOf? b = some i := by
    unfold idx at h
    split at h
    · cases h; assumption
    · cases h
  rw [List.idxOf?] at h2
  obtain ⟨hl, h3, _⟩ := List.findIdx?_eq_some_iff_getElem.1 h2
  rw [List.getElem?_eq_getElem hl]
  simpa using h3

theorem idx_of_mem {l : List Nat} {b : Nat} (h : b ∈ l) : ∃ i, idx l b = some i := by
  have : l.idxOf? b ≠ none := by
    rw [List.idxOf?]
    intro hn
    rw [List.findIdx?_eq_none_iff] at hn
    have := hn b h
    simp at this
  cases hi : l.idxOf? b with
  | none => exact absurd hi this
  | some i => exact ⟨i, by simp [idx, hi]⟩

theorem idx_none {l : List Nat} {b : Nat} : idx l b = none ↔ b ∉ l := by
  constructor
  · intro h hm
    obtain ⟨i, hi⟩ := idx_of_mem hm
    rw [h] at hi
    cases hi
  · intro h
    cases hi : idx l b with
    | none => rfl
    | some i => exact absurd (List.mem_of_getElem? (idx_some hi)) h

theorem renL_len (bp : Bool) (q : Nat) (f : Nat → Option Nat) (T : List Blk) : ∀ l : List IV, (renL bp q f T l).length = l.length
  | [] => rfl
  | x :: xs => by simp only [renL, List.length_cons, renL_len bp q f T xs]

theorem sub_get {Γ : Cx} {bp : Bool} {q : Nat} {bs : List Nat} {b i : Nat} (h : idx bs b = some i) : (Γ.sub bp q bs).T[i]? = some (renB bp q (idx bs) Γ.T b) ∧ (Γ.sub bp q bs).ρ[i]? = some ((Γ.ρ[b]?).getD none) := by
  have := idx_some h
  simp [Cx.sub, List.getElem?_map, this]

theorem renB_row {bp : Bool} {q : Nat} {f : Nat → Option Nat} {T : List Blk} {b ver : Nat} {fz : Bool} {e : Nat} {l : List IV} (h : renB bp q f T b = .row ver fz e l) : ∃ v0, ver = nver bp q b v0 ∧ T[b]? = some (.row v0 fz e l) := by
  unfold renB at h
  split at h
  · cases h
  · rename_i v0 fz0 e0 l0 hT
    cases h
    exact ⟨v0, rfl, hT⟩
  · cases h
  · cases h

theorem renB_lp {bp : Bool} {q : Nat} {f : Nat → Option Nat} {T : List Blk} {b : Nat} {j : LpS} (h : renB bp q f T b = .lp j) : T[b]? = some (.lp j) := by
  unfold renB at h
  split at h
  · cases h
  · cases h
  · rename_i hT
    cases h
    exact hT
  · cases h

theorem renB_var {bp : Bool} {q : Nat} {f : Nat → Option Nat} {T : List Blk} {b : Nat} {fz : Bool} {cs : List IV} (h : renB bp q f T b = .var fz cs) : ∃ cs0, T[b]? = some (.var fz cs0) ∧ cs = renL bp q f T cs0 := by
  unfold renB at h
  split at h
  · rename_i fz0 cs0 hT
    cases h
    exact ⟨cs0, hT, rfl⟩
  · cases h
  · cases h
  · cases h

section
variable {Γ : Cx} {w : World} {bp : Bool} {q : Nat} {bs : List Nat}
mutual
theorem ren_rep : ∀ (x : IV) (v : Value), Rep Γ w x v → Rep (Γ.sub bp q bs) w (ren bp q (idx bs) Γ.T x) v
  | .undef, _, _ => trivial
  | .int _ _, _, hr => hr
  | .bool _, _, hr => hr
  | .str _, _, hr => hr
  | .nilp, _, hr => hr
  | .nilf, _, hr => hr
  | .nili, _, hr => hr
  | .fsl .., _, hr => hr
  | .fp _, _, hr => hr
  | .gd .., _, _ => trivial
  | .agg l, _, hr => by
    simp only [Rep, ren] at hr ⊢
    obtain ⟨vs, e, hl⟩ := hr
    exact ⟨vs, e, renL_rep l vs hl⟩
  | .tup l, _, hr => by
    simp only [Rep, ren] at hr ⊢
    obtain ⟨vs, e, hl⟩ := hr
    exact ⟨vs, e, renL_rep l vs hl⟩
  | .fn f l, _, hr => by
    simp only [Rep, ren] at hr ⊢
    obtain ⟨vs, e, hl⟩ := hr
    exact ⟨vs, e, renL_rep l vs hl⟩
  | .osl b ver, v, hr => by
    simp only [ren]
    split
    · rename_i q' b' hrow hb'
      obtain ⟨e, l⟩ := q'
      obtain ⟨fz, hb⟩ := row_some hrow
      obtain ⟨h1, h2⟩ := sub_get (Γ := Γ) (bp := bp) (q := q) hb'
      simp only [Rep, RefO] at hr ⊢
      refine ⟨(List.getElem?_eq_some_iff.1 h1).1, hr.2.1, fun ver' fz' e' l' hT => ?_⟩
      rw [h1] at hT
      simp only [Option.some.injEq] at hT
      obtain ⟨v0, rfl, hT2⟩ := renB_row hT
      rw [hb] at hT2
      cases hT2
      refine ⟨Nat.le_refl _, fun _ => ?_⟩
      obtain ⟨A, c, e1, e2, e3, e4⟩ := (hr.2.2 _ _ _ _ hb).2 rfl
      refine ⟨A, c, e1, e2, e3, ?_⟩
      rcases e4 with ⟨g, arr, ty, hg, e5⟩ | e4
      · exact .inl ⟨g, arr, ty, by rw [h2, hg]; rfl, e5⟩
      · exact .inr e4
    · trivial
  | .vsl b ver lo n, v, hr => by
    simp only [ren]
    split
    · rename_i q' b' hrow hb'
      obtain ⟨e, l⟩ := q'
      obtain ⟨fz, hb⟩ := row_some hrow
      obtain ⟨h1, h2⟩ := sub_get (Γ := Γ) (bp := bp) (q := q) hb'
      simp only [Rep, RefV] at hr ⊢
      refine ⟨(List.getElem?_eq_some_iff.1 h1).1, hr.2.1, fun ver' fz' e' l' hT => ?_⟩
      rw [h1] at hT
      simp only [Option.some.injEq] at hT
      obtain ⟨v0, rfl, hT2⟩ := renB_row hT
      rw [hb] at hT2
      cases hT2
      refine ⟨Nat.le_refl _, fun _ => ?_⟩
      obtain ⟨e0, A, c, e1, e2, e4⟩ := (hr.2.2 _ _ _ _ hb).2 rfl
      refine ⟨e0, A, c, e1, e2, ?_⟩
      rcases e4 with e4 | ⟨g, hg, e5⟩
      · exact .inl e4
      · exact .inr ⟨g, by rw [h2, hg]; rfl, e5⟩
    · trivial
  | .vsv b lo n, v, hr => by
    simp only [ren]
    split
    · rename_i b' hb'
      obtain ⟨h1, h2⟩ := sub_get (Γ := Γ) (bp := bp) (q := q) hb'
      simp only [Rep, RefA] at hr ⊢
      refine ⟨(List.getElem?_eq_some_iff.1 h1).1, hr.2.1, fun fz' cs' hT => ?_⟩
      rw [h1] at hT
      simp only [Option.some.injEq] at hT
      obtain ⟨cs0, hT2, rfl⟩ := renB_var hT
      obtain ⟨e0, A, c, e1, e2, e4⟩ := hr.2.2 _ _ hT2
      refine ⟨by rw [renL_len]; exact e0, A, c, e1, e2, ?_⟩
      rcases e4 with e4 | ⟨g, hg, e5⟩
      · exact .inl e4
      · exact .inr ⟨g, by rw [h2, hg]; rfl, e5⟩
    · trivial
  | .ep b ver i off, v, hr => by
    simp only [ren]
    split
    · rename_i q' b' hrow hb'
      obtain ⟨e, l⟩ := q'
      obtain ⟨fz, hb⟩ := row_some hrow
      obtain ⟨h1, h2⟩ := sub_get (Γ := Γ) (bp := bp) (q := q) hb'
      simp only [Rep, RefE] at hr ⊢
      refine ⟨(List.getElem?_eq_some_iff.1 h1).1, hr.2.1, fun ver' fz' e' l' hT => ?_⟩
      rw [h1] at hT
      simp only [Option.some.injEq] at hT
      obtain ⟨v0, rfl, hT2⟩ := renB_row hT
      rw [hb] at hT2
      cases hT2
      refine ⟨Nat.le_refl _, fun _ => ?_⟩
      obtain ⟨e0, g, hg, e5⟩ := (hr.2.2 _ _ _ _ hb).2 rfl
      exact ⟨e0, g, by rw [h2, hg]; rfl, e5⟩
    · trivial
  | .ptr b off, v, hr => by
    simp only [ren]
    split
    · rename_i b' hb'
      obtain ⟨h1, h2⟩ := sub_get (Γ := Γ) (bp := bp) (q := q) hb'
      simp only [Rep, RefP] at hr ⊢
      refine ⟨(List.getElem?_eq_some_iff.1 h1).1, hr.2.1, fun fz' cs' hT => ?_⟩
      rw [h1] at hT
      simp only [Option.some.injEq] at hT
      obtain ⟨cs0, hT2, rfl⟩ := renB_var hT
      obtain ⟨g, hg, e5⟩ := hr.2.2 _ _ hT2
      exact ⟨g, by rw [h2, hg]; rfl, e5⟩
    · trivial
  | .yf b, v, hr => by
    simp only [ren]
    split
    · rename_i b' hb'
      obtain ⟨h1, h2⟩ := sub_get (Γ := Γ) (bp := bp) (q := q) hb'
      simp only [Rep, RefY] at hr ⊢
      refine ⟨(List.getElem?_eq_some_iff.1 h1).1, hr.2.1, fun j hT => ?_⟩
      rw [h1] at hT
      simp only [Option.some.injEq] at hT
      obtain ⟨g, hg, e5⟩ := hr.2.2 _ (renB_lp hT)
      exact ⟨g, by rw [h2, hg]; rfl, e5⟩
    · trivial
theorem renL_rep : ∀ (l : List IV) (vs : List Value), RepL Γ w l vs → RepL (Γ.sub bp q bs) w (renL bp q (idx bs) Γ.T l) vs
  | [], _, hr => hr
  | x :: xs, _, hr => by
    simp only [RepL, renL] at hr ⊢
    obtain ⟨v, us, e, hx, hl⟩ := hr
    exact ⟨v, us, e, ren_rep x v hx, renL_rep xs us hl⟩
end

theorem sub_blk {i : Nat} {k : Blk} (h : (Γ.sub bp q bs).T[i]? = some k) : ∃ b, bs[i]? = some b ∧ k = renB bp q (idx bs) Γ.T b ∧ (Γ.sub bp q bs).ρ[i]? = some ((Γ.ρ[b]?).getD none) := by
  simp only [Cx.sub, List.getElem?_map] at h ⊢
  obtain ⟨b, hb, rfl⟩ := Option.map_eq_some_iff.1 h
  exact ⟨b, hb, rfl, by rw [hb]; rfl⟩

theorem renB_live {bp : Bool} {q : Nat} {f : Nat → Option Nat} {T : List Blk} {b : Nat} (h : (renB bp q f T b).live = true) : ∃ k, T[b]? = some k ∧ k.live = true ∧ (renB bp q f T b).own = k.own := by
  unfold renB at h ⊢
  split at h
  · rename_i fz cs hT
    exact ⟨_, hT, rfl, rfl⟩
  · rename_i hT
    exact ⟨_, hT, rfl, rfl⟩
  · rename_i hT
    exact ⟨_, hT, rfl, rfl⟩
  · simp [Blk.live] at h

theorem own_live {k : Blk} (h : k.own = true) : k.live = true := by cases k <;> simp_all [Blk.own, Blk.live]

theorem sub_inv (hi : Inv Γ w) (hn : bs.Nodup) : Inv (Γ.sub bp q bs) w := by
  refine inv_of (by simp [Cx.sub]) hi.okb ?_ ?_
  · intro i k h
    obtain ⟨b, hb, rfl, hr⟩ := sub_blk h
    refine ⟨_, hr, ?_⟩
    cases hk : renB bp q (idx bs) Γ.T b with
    | dead => trivial
    | lp j =>
      obtain ⟨g, r, h1, h2⟩ := hi.lp b j (renB_lp hk)
      exact ⟨g, r, by rw [h1]; rfl, h2⟩
    | var fz cs =>
      obtain ⟨cs0, hT, rfl⟩ := renB_var hk
      obtain ⟨g, arr, ty, h1, h2, h3, h4, h5⟩ := hi.var b fz cs0 hT
      exact ⟨g, arr, ty, by rw [h1]; rfl, h2, renL_rep _ _ h3, h4, h5⟩
    | row ver fz e l =>
      obtain ⟨v0, rfl, hT⟩ := renB_row hk
      rcases hi.row b v0 fz e l hT with ⟨h1, h2⟩ | ⟨g, arr, ty, h1, h2⟩
      · exact .inl ⟨by rw [h1]; rfl, h2⟩
      · exact .inr ⟨g, arr, ty, by rw [h1]; rfl, h2⟩
  · intro i i' g k k' h1 l1 h2 l2 r1 r2
    obtain ⟨b, hb, rfl, hr⟩ := sub_blk h1
    obtain ⟨b', hb', rfl, hr'⟩ := sub_blk h2
    rw [hr] at r1
    rw [hr'] at r2
    obtain ⟨k1, a1, a2, _⟩ := renB_live l1
    obtain ⟨k2, b1, b2, _⟩ := renB_live l2
    have e1 : Γ.ρ[b]? = some (some g) := by
      cases hx : Γ.ρ[b]? with
      | none => rw [hx] at r1; simp at r1
      | some y => rw [hx] at r1; simpa using r1
    have e2 : Γ.ρ[b']? = some (some g) := by
      cases hx : Γ.ρ[b']? with
      | none => rw [hx] at r2; simp at r2
      | some y => rw [hx] at r2; simpa using r2
    have := hi.inj b b' g k1 k2 a1 a2 b1 b2 e1 e2
    subst this
    exact (List.getElem?_inj (List.getElem?_eq_some_iff.1 hb).1 hn).1 (hb.trans hb'.symm)

theorem sub_own {g : Nat} (h : (Γ.sub bp q bs).own g) : ∃ b k, b ∈ bs ∧ Γ.T[b]? = some k ∧ k.own = true ∧ Γ.ρ[b]? = some (some g) := by
  obtain ⟨i, k, h1, h2, h3⟩ := h
  obtain ⟨b, hb, rfl, hr⟩ := sub_blk h1
  rw [hr] at h3
  obtain ⟨k1, a1, a2, a3⟩ := renB_live (own_live h2)
  refine ⟨b, k1, List.mem_of_getElem? hb, a1, by rw [← a3]; exact h2, ?_⟩
  cases hx : Γ.ρ[b]? with
  | none => rw [hx] at h3; simp at h3
  | some y => rw [hx] at h3; simpa using h3

theorem sub_liv {g : Nat} (h : (Γ.sub bp q bs).liv g) : ∃ b k, b ∈ bs ∧ Γ.T[b]? = some k ∧ k.live = true ∧ Γ.ρ[b]? = some (some g) := by
  obtain ⟨i, k, h1, h2, h3⟩ := h
  obtain ⟨b, hb, rfl, hr⟩ := sub_blk h1
  rw [hr] at h3
  obtain ⟨k1, a1, a2, a3⟩ := renB_live h2
  refine ⟨b, k1, List.mem_of_getElem? hb, a1, a2, ?_⟩
  cases hx : Γ.ρ[b]? with
  | none => rw [hx] at h3; simp at h3
  | some y => rw [hx] at h3; simpa using h3

theorem Fr.sub {Γ0 : Cx} {w0 : World} {p : Nat} (h : Fr p Γ0 w0 Γ w) (hn : bs.Nodup) (hpq : p ≤ q) (hp : ∀ b, b < p → bs[b]? = some b) : Fr p Γ0 w0 (Γ.sub bp q bs) w := by
  refine ⟨sub_inv h.inv hn, h.frm, fun g hg => ?_, h.okp, fun g hg => ?_, h.ok, ?_, ?_, ?_, ?_⟩
  · obtain ⟨b, k, _, h1, h2, h3⟩ := sub_own hg
    exact h.own g ⟨b, k, h1, h2, h3⟩
  · obtain ⟨b, k, _, h1, h2, h3⟩ := sub_liv hg
    exact h.liv g ⟨b, k, h1, h2, h3⟩
  · simp only [Cx.sub, List.length_map]
    rcases Nat.eq_zero_or_pos p with rfl | h0
    · exact Nat.zero_le _
    · have := (List.getElem?_eq_some_iff.1 (hp (p - 1) (by omega))).1
      omega
  · intro b fz cs hb hT
    obtain ⟨b', hb', hk, hr⟩ := sub_blk hT
    rw [hp b hb] at hb'
    cases hb'
    obtain ⟨cs0, hT0, rfl⟩ := renB_var hk.symm
    obtain ⟨fz1, cs1, h1, h2, h3⟩ := h.var b fz cs0 hb hT0
    refine ⟨fz1, cs1, h1, by rw [renL_len]; exact h2, ?_⟩
    rw [hr, h3]
    obtain ⟨g, _, _, hg, _⟩ := h.inv.var b fz cs0 hT0
    rw [h3] at hg
    rw [hg]
    rfl
  · intro b ver fz e l hb hT
    obtain ⟨b', hb', hk, hr⟩ := sub_blk hT
    rw [hp b hb] at hb'
    cases hb'
    obtain ⟨v0, hv0, hT0⟩ := renB_row hk.symm
    obtain ⟨v1, fz1, e1, l1, g1, g2⟩ := h.row b v0 fz e l hb hT0
    refine ⟨v1, fz1, e1, l1, g1, fun hv => ?_⟩
    have hz : v0 = 0 := by
      cases v0 with
      | zero => rfl
      | succ v0 =>
        rw [hv] at hv0
        have : Nat.blt b q = true := by rw [Nat.blt_eq]; omega
        cases bp <;> simp [nver, this] at hv0
    obtain ⟨n1, n2, n3, n4, n5⟩ := g2 hz
    refine ⟨n1, n2, n3, ?_, n5⟩
    rw [hr, n4]
    have hl : b < Γ.ρ.length := by rw [h.inv.len]; exact (List.getElem?_eq_some_iff.1 hT0).1
    rw [List.getElem?_eq_getElem hl] at n4
    rw [← n4]
    rfl
  · intro b j hb hT
    obtain ⟨b', hb', hk, hr⟩ := sub_blk hT
    rw [hp b hb] at hb'
    cases hb'
    obtain ⟨j0, h1, h3⟩ := h.lp b j hb (renB_lp hk.symm)
    refine ⟨j0, h1, ?_⟩
    rw [hr, h3]
    obtain ⟨g, _, hg, _⟩ := h.inv.lp b j (renB_lp hk.symm)
    rw [h3] at hg
    rw [hg]
    rfl
end

section
variable {Γ : Cx} {w : World} {T : List Blk} {ρ : List (Option Nat)}
mutual
theorem noref_rep : ∀ (x : IV) (v : Value), refs x = [] → Rep Γ w x v → Rep ⟨Γ.ok, T, ρ⟩ w x v
  | .undef, _, _, _ => trivial
  | .int _ _, _, _, hr => hr
  | .bool _, _, _, hr => hr
  | .str _, _, _, hr => hr
  | .nilp, _, _, hr => hr
  | .nilf, _, _, hr => hr
  | .nili, _, _, hr => hr
  | .fsl .., _, _, hr => hr
  | .fp _, _, _, hr => hr
  | .gd _ _ _ x, v, h, hr => by
    simp only [refs] at h
    simp only [Rep] at hr ⊢
    exact ⟨fun hc => noref_rep x v h (hr.1 hc), hr.2⟩
  | .agg l, _, h, hr => by
    simp only [refs] at h
    simp only [Rep] at hr ⊢
    obtain ⟨vs, e, hl⟩ := hr
    exact ⟨vs, e, norefL_rep l vs h hl⟩
  | .tup l, _, h, hr => by
    simp only [refs] at h
    simp only [Rep] at hr ⊢
    obtain ⟨vs, e, hl⟩ := hr
    exact ⟨vs, e, norefL_rep l vs h hl⟩
  | .fn f l, _, h, hr => by
    simp only [refs] at h
    simp only [Rep] at hr ⊢
    obtain ⟨vs, e, hl⟩ := hr
    exact ⟨vs, e, norefL_rep l vs h hl⟩
  | .osl .., _, h, _ => by simp [refs] at h
  | .vsl .., _, h, _ => by simp [refs] at h
  | .vsv .., _, h, _ => by simp [refs] at h
  | .ep .., _, h, _ => by simp [refs] at h
  | .ptr .., _, h, _ => by simp [refs] at h
  | .yf .., _, h, _ => by simp [refs] at h
theorem norefL_rep : ∀ (l : List IV) (vs : List Value), refsL l = [] → RepL Γ w l vs → RepL ⟨Γ.ok, T, ρ⟩ w l vs
  | [], _, _, hr => hr
  | x :: xs, _, h, hr => by
    simp only [refsL, List.append_eq_nil_iff] at h
    simp only [RepL] at hr ⊢
    obtain ⟨v, us, e, hx, hl⟩ := hr
    exact ⟨v, us, e, noref_rep x v h.1 hx, norefL_rep xs us h.2 hl⟩
end
end

/-! ### Reach -/
theorem addNew_nodup : ∀ (bs acc : List Nat), acc.Nodup → (addNew acc bs).Nodup
  | [], acc, h => h
  | b :: bs, acc, h => by
    simp only [addNew]
    refine addNew_nodup bs _ ?_
    split
    · exact h
    · rename_i hc
      rw [List.nodup_append]
      refine ⟨h, by simp, fun a ha c hc2 => ?_⟩
      simp at hc2
      subst hc2
      intro e
      subst e
      exact hc (by simpa using ha)
theorem addNew_prefix : ∀ (bs acc : List Nat), acc <+: addNew acc bs
  | [], acc => List.prefix_refl _
  | b :: bs, acc => by
    simp only [addNew]
    refine List.IsPrefix.trans ?_ (addNew_prefix bs _)
    split
    · exact List.prefix_refl _
    · exact List.prefix_append _ _
theorem reach_nodup {T : List Blk} : ∀ (n : Nat) (acc : List Nat), acc.Nodup → (reach T n acc).Nodup
  | 0, acc, h => h
  | n + 1, acc, h => by
    simp only [reach]
    exact reach_nodup n _ (addNew_nodup _ _ h)
theorem reach_prefix {T : List Blk} : ∀ (n : Nat) (acc : List Nat), acc <+: reach T n acc
  | 0, acc => List.prefix_refl _
  | n + 1, acc => by
    simp only [reach]
    exact List.IsPrefix.trans (addNew_prefix _ _) (reach_prefix n _)
theorem prefix_range {p : Nat} {bs : List Nat} (h : List.range p <+: bs) : ∀ b, b < p → bs[b]? = some b := by
  intro b hb
  obtain ⟨t, rfl⟩ := h
  rw [List.getElem?_append_left (by simpa using hb)]
  simp [hb]
end Go.Im

namespace Go.Im
open Go
set_option linter.unusedVariables false
set_option linter.unusedSimpArgs false
set_option linter.unnecessarySimpa false
set_option linter.unusedSectionVars false

/-! ### What is lent -/
theorem rowOf_shut {T : List Blk} {bs : List Nat} {b ver : Nat} : rowOf (shut T bs) b ver = rowOf T b ver := by
  unfold rowOf
  rw [shut_get]
  by_cases hm : b ∈ bs
  · rw [if_pos hm]
    cases hT : T[b]? with
    | none => rfl
    | some k => cases k <;> rfl
  · rw [if_neg hm]

mutual
theorem ren_shut {bp : Bool} {q : Nat} {f : Nat → Option Nat} {T : List Blk} {bs : List Nat} : ∀ x : IV, ren bp q f (shut T bs) x = ren bp q f T x
  | .undef => rfl
  | .int _ _ => rfl
  | .bool _ => rfl
  | .str _ => rfl
  | .nilp => rfl
  | .nilf => rfl
  | .nili => rfl
  | .fsl .. => rfl
  | .fp _ => rfl
  | .gd .. => rfl
  | .agg l => by simp only [ren, renL_shut l]
  | .tup l => by simp only [ren, renL_shut l]
  | .fn g l => by simp only [ren, renL_shut l]
  | .osl .. => by simp only [ren, rowOf_shut]
  | .vsl .. => by simp only [ren, rowOf_shut]
  | .vsv .. => rfl
  | .ep .. => by simp only [ren, rowOf_shut]
  | .ptr .. => rfl
  | .yf .. => rfl
theorem renL_shut {bp : Bool} {q : Nat} {f : Nat → Option Nat} {T : List Blk} {bs : List Nat} : ∀ l : List IV, renL bp q f (shut T bs) l = renL bp q f T l
  | [] => rfl
  | x :: xs => by simp only [renL, ren_shut x, renL_shut xs]
end

theorem renB_shut {bp : Bool} {q : Nat} {f : Nat → Option Nat} {T : List Blk} {bs : List Nat} {b : Nat} (h : b ∉ bs) : renB bp q f (shut T bs) b = renB bp q f T b := by
  unfold renB
  rw [shut_get, if_neg h]
  cases hT : T[b]? with
  | none => rfl
  | some k => cases k <;> simp only [renL_shut]

section
variable {Γ : Cx} {w : World} {hd : List Nat}

mutual
theorem lend_out : ∀ (x y : IV) (bs : List Nat), lend (idx hd) Γ.T x = some (y, bs) → ∀ b ∈ bs, b ∉ hd ∧ ∃ k, Γ.T[b]? = some k ∧ k.cel = true
  | .undef, _, _, h => by simp [lend] at h
  | .int _ _, _, _, h => by simp [lend] at h; obtain ⟨_, rfl⟩ := h; simp
  | .bool _, _, _, h => by simp [lend] at h; obtain ⟨_, rfl⟩ := h; simp
  | .str _, _, _, h => by simp [lend] at h; obtain ⟨_, rfl⟩ := h; simp
  | .nilp, _, _, h => by simp [lend] at h; obtain ⟨_, rfl⟩ := h; simp
  | .nilf, _, _, h => by simp [lend] at h; obtain ⟨_, rfl⟩ := h; simp
  | .nili, _, _, h => by simp [lend] at h; obtain ⟨_, rfl⟩ := h; simp
  | .fsl .., _, _, h => by simp [lend] at h; obtain ⟨_, rfl⟩ := h; simp
  | .fp _, _, _, h => by simp [lend] at h; obtain ⟨_, rfl⟩ := h; simp
  | .gd .., _, _, h => by simp [lend] at h
  | .agg l, _, _, h => by
    simp only [lend] at h
    obtain ⟨⟨ys, bs⟩, h1, h2⟩ := Option.map_eq_some_iff.1 h
    cases h2
    exact lendL_out l ys _ h1
  | .tup l, _, _, h => by
    simp only [lend] at h
    obtain ⟨⟨ys, bs⟩, h1, h2⟩ := Option.map_eq_some_iff.1 h
    cases h2
    exact lendL_out l ys _ h1
  | .fn g l, _, _, h => by
    simp only [lend] at h
    obtain ⟨⟨ys, bs⟩, h1, h2⟩ := Option.map_eq_some_iff.1 h
    cases h2
    exact lendL_out l ys _ h1
  | .osl b ver, _, _, h => by
    simp only [lend] at h
    split at h
    · rename_i e l hrow
      obtain ⟨fz, hb⟩ := row_some hrow
      split at h
      · cases h; simp
      · rename_i hn
        cases h
        intro b' hb'
        simp at hb'
        subst hb'
        exact ⟨idx_none.1 hn, _, hb, rfl⟩
    · cases h
  | .vsl b ver lo n, _, _, h => by
    simp only [lend] at h
    split at h
    · rename_i e l hrow
      obtain ⟨fz, hb⟩ := row_some hrow
      split at h
      · cases h; simp
      · rename_i hn
        cases h
        intro b' hb'
        simp at hb'
        subst hb'
        exact ⟨idx_none.1 hn, _, hb, rfl⟩
    · cases h
  | .vsv b lo n, _, _, h => by
    simp only [lend] at h
    split at h
    · cases h; simp
    · rename_i hn
      split at h
      · rename_i fz cs hb
        split at h
        · cases h
          intro b' hb'
          simp at hb'
          subst hb'
          exact ⟨idx_none.1 hn, _, hb, rfl⟩
        · cases h
      · cases h
  | .ep b ver i off, _, _, h => by
    simp only [lend] at h
    split at h
    · obtain ⟨_, h1, h2⟩ := Option.map_eq_some_iff.1 h
      cases h2
      simp
    · cases h
  | .ptr b off, _, _, h => by
    simp only [lend] at h
    obtain ⟨_, h1, h2⟩ := Option.map_eq_some_iff.1 h
    cases h2
    simp
  | .yf _, _, _, h => by simp [lend] at h
theorem lendL_out : ∀ (x y : List IV) (bs : List Nat), lendL (idx hd) Γ.T x = some (y, bs) → ∀ b ∈ bs, b ∉ hd ∧ ∃ k, Γ.T[b]? = some k ∧ k.cel = true
  | [], _, _, h => by simp [lendL] at h; obtain ⟨_, rfl⟩ := h; simp
  | x :: xs, _, _, h => by
    simp only [lendL] at h
    split at h
    · rename_i y p ys q h1 h2
      cases h
      intro b hb
      rcases List.mem_append.1 hb with hb | hb
      · exact lend_out x y p h1 b hb
      · exact lendL_out xs ys q h2 b hb
    · cases h
end

variable {bs' : List Nat}
theorem shut_sub_rep {x : IV} {v : Value} (hi : Inv Γ w) (hr : Rep Γ w x v) : Rep ((Γ.shut bs').sub false 0 hd) w (ren false 0 (idx hd) Γ.T x) v := by
  have := ren_rep (bp := false) (q := 0) (bs := hd) x v (Rep.ext (step_shut hi bs').ext x v hr)
  rwa [show (Γ.shut bs').T = shut Γ.T bs' from rfl, ren_shut] at this

mutual
theorem lend_rep (hi : Inv Γ w) : ∀ (x y : IV) (bs : List Nat) (v : Value), lend (idx hd) Γ.T x = some (y, bs) → (∀ b ∈ bs, b ∈ bs') → Rep Γ w x v → Rep ((Γ.shut bs').sub false 0 hd) w y v
  | .undef, _, _, _, h, _, _ => by simp [lend] at h
  | .int _ _, _, _, _, h, _, hr => by simp [lend] at h; obtain ⟨rfl, _⟩ := h; exact hr
  | .bool _, _, _, _, h, _, hr => by simp [lend] at h; obtain ⟨rfl, _⟩ := h; exact hr
  | .str _, _, _, _, h, _, hr => by simp [lend] at h; obtain ⟨rfl, _⟩ := h; exact hr
  | .nilp, _, _, _, h, _, hr => by simp [lend] at h; obtain ⟨rfl, _⟩ := h; exact hr
  | .nilf, _, _, _, h, _, hr => by simp [lend] at h; obtain ⟨rfl, _⟩ := h; exact hr
  | .nili, _, _, _, h, _, hr => by simp [lend] at h; obtain ⟨rfl, _⟩ := h; exact hr
  | .fsl .., _, _, _, h, _, hr => by simp [lend] at h; obtain ⟨rfl, _⟩ := h; exact RepC.mono (fun g h => ⟨.inl h, rfl⟩) _ _ hr
  | .fp _, _, _, _, h, _, hr => by simp [lend] at h; obtain ⟨rfl, _⟩ := h; exact RepC.mono (fun g h => ⟨.inl h, rfl⟩) _ _ hr
  | .gd .., _, _, _, h, _, _ => by simp [lend] at h
  | .agg l, _, _, _, h, hs, hr => by
    simp only [lend] at h
    obtain ⟨⟨ys, bs⟩, h1, h2⟩ := Option.map_eq_some_iff.1 h
    cases h2
    simp only [Rep] at hr ⊢
    obtain ⟨vs, e, hl⟩ := hr
    exact ⟨vs, e, lendL_rep hi l ys _ vs h1 hs hl⟩
  | .tup l, _, _, _, h, hs, hr => by
    simp only [lend] at h
    obtain ⟨⟨ys, bs⟩, h1, h2⟩ := Option.map_eq_some_iff.1 h
    cases h2
    simp only [Rep] at hr ⊢
    obtain ⟨vs, e, hl⟩ := hr
    exact ⟨vs, e, lendL_rep hi l ys _ vs h1 hs hl⟩
  | .fn g l, _, _, _, h, hs, hr => by
    simp only [lend] at h
    obtain ⟨⟨ys, bs⟩, h1, h2⟩ := Option.map_eq_some_iff.1 h
    cases h2
    simp only [Rep] at hr ⊢
    obtain ⟨vs, e, hl⟩ := hr
    exact ⟨vs, e, lendL_rep hi l ys _ vs h1 hs hl⟩
  | .osl b ver, _, _, v, h, hs, hr => by
    have key := shut_sub_rep (bs' := bs') (hd := hd) hi hr
    simp only [lend] at h
    split at h
    · rename_i e l hrow
      split at h
      · rename_i b' hb'
        cases h
        simp only [ren, hrow, hb'] at key
        exact key
      · cases h
        exact slc_frz hi (x := .osl b ver) (by simp only [slc, hrow]; rfl) hr hs
    · cases h
  | .vsl b ver lo n, _, _, v, h, hs, hr => by
    have key := shut_sub_rep (bs' := bs') (hd := hd) hi hr
    simp only [lend] at h
    split at h
    · rename_i e l hrow
      split at h
      · rename_i b' hb'
        cases h
        simp only [ren, hrow, hb'] at key
        exact key
      · cases h
        exact slc_frz hi (x := .vsl b ver lo n) (by simp only [slc, hrow]; rfl) hr hs
    · cases h
  | .vsv b lo n, _, _, v, h, hs, hr => by
    have key := shut_sub_rep (bs' := bs') (hd := hd) hi hr
    simp only [lend] at h
    split at h
    · rename_i b' hb'
      cases h
      simp only [ren, hb'] at key
      exact key
    · split at h
      · rename_i fz cs hb
        split at h
        · rename_i hc
          cases h
          exact slc_frz hi (x := .vsv b lo n) (by simp only [slc, hb, hc]) hr hs
        · cases h
      · cases h
  | .ep b ver i off, _, _, v, h, hs, hr => by
    have key := shut_sub_rep (bs' := bs') (hd := hd) hi hr
    simp only [lend] at h
    split at h
    · rename_i b' hb'
      obtain ⟨p, h1, h2⟩ := Option.map_eq_some_iff.1 h
      cases h2
      simp only [ren, h1, hb'] at key
      exact key
    · cases h
  | .ptr b off, _, _, v, h, hs, hr => by
    have key := shut_sub_rep (bs' := bs') (hd := hd) hi hr
    simp only [lend] at h
    obtain ⟨b', h1, h2⟩ := Option.map_eq_some_iff.1 h
    cases h2
    simp only [ren, h1] at key
    exact key
theorem lendL_rep (hi : Inv Γ w) : ∀ (x y : List IV) (bs : List Nat) (vs : List Value), lendL (idx hd) Γ.T x = some (y, bs) → (∀ b ∈ bs, b ∈ bs') → RepL Γ w x vs → RepL ((Γ.shut bs').sub false 0 hd) w y vs
  | [], _, _, _, h, _, hr => by simp [lendL] at h; obtain ⟨rfl, _⟩ := h; exact hr
  | x :: xs, _, _, _, h, hs, hr => by
    simp only [lendL] at h
    split at h
    · rename_i y p ys q h1 h2
      cases h
      simp only [RepL] at hr ⊢
      obtain ⟨v, us, e, hx, hl⟩ := hr
      exact ⟨v, us, e, lend_rep hi x y p v h1 (fun b hb => hs b (List.mem_append_left _ hb)) hx, lendL_rep hi xs ys q us h2 (fun b hb => hs b (List.mem_append_right _ hb)) hl⟩
    · cases h
end
end

/-! ### Back -/
theorem backL_len (f v : Nat → Nat) : ∀ l : List IV, (backL f v l).length = l.length
  | [] => rfl
  | x :: xs => by simp only [backL, List.length_cons, backL_len f v xs]

theorem backB_live (f v : Nat → Nat) (n : Nat) (k : Blk) : (backB f v n k).live = k.live ∧ (backB f v n k).own = k.own := by cases k <;> exact ⟨rfl, rfl⟩

theorem backB_cel (f v : Nat → Nat) (n : Nat) (k : Blk) : (backB f v n k).cel = k.cel := by cases k <;> rfl

theorem backBs_get (f v : Nat → Nat) : ∀ (T : List Blk) (j i : Nat), (backBs f v j T)[i]? = (T[i]?).map fun k => backB f v (v (j + i)) k
  | [], j, i => by simp [backBs]
  | k :: T, j, 0 => by simp [backBs]
  | k :: T, j, i + 1 => by
    simp only [backBs, List.getElem?_cons_succ]
    rw [backBs_get f v T (j + 1) i, show j + 1 + i = j + (i + 1) by omega]

theorem backBs_len (f v : Nat → Nat) : ∀ (T : List Blk) (j : Nat), (backBs f v j T).length = T.length
  | [], j => rfl
  | k :: T, j => by simp only [backBs, List.length_cons, backBs_len f v T]

section
variable {Γ Γ' : Cx} {w' : World} {f v : Nat → Nat} (hok : ∀ g, Γ'.ok g → Γ.ok g)
  (hT : ∀ i k, Γ'.T[i]? = some k → Γ.T[f i]? = some (backB f v (v i) k) ∧ Γ.ρ[f i]? = Γ'.ρ[i]?)
include hok hT

theorem back_row {b : Nat} (hb : b < Γ'.T.length) {ver fz e l} (h : Γ.T[f b]? = some (.row ver fz e l)) : ∃ v0, Γ'.T[b]? = some (.row v0 fz e l) ∧ ver = v b + v0 ∧ Γ.ρ[f b]? = Γ'.ρ[b]? := by
  have hk := List.getElem?_eq_getElem hb
  obtain ⟨h1, h2⟩ := hT b _ hk
  rw [h] at h1
  simp only [Option.some.injEq] at h1
  cases hx : Γ'.T[b] with
  | dead => rw [hx] at h1; cases h1
  | lp => rw [hx] at h1; cases h1
  | var => rw [hx] at h1; cases h1
  | row v0 fz0 e0 l0 =>
    rw [hx] at h1 hk
    simp only [backB, Blk.row.injEq] at h1
    obtain ⟨rfl, rfl, rfl, rfl⟩ := h1
    exact ⟨v0, hk, rfl, h2⟩

theorem back_var {b : Nat} (hb : b < Γ'.T.length) {fz cs} (h : Γ.T[f b]? = some (.var fz cs)) : ∃ cs0, Γ'.T[b]? = some (.var fz cs0) ∧ cs = backL f v cs0 ∧ Γ.ρ[f b]? = Γ'.ρ[b]? := by
  have hk := List.getElem?_eq_getElem hb
  obtain ⟨h1, h2⟩ := hT b _ hk
  rw [h] at h1
  simp only [Option.some.injEq] at h1
  cases hx : Γ'.T[b] with
  | dead => rw [hx] at h1; cases h1
  | lp => rw [hx] at h1; cases h1
  | row => rw [hx] at h1; cases h1
  | var fz0 cs0 =>
    rw [hx] at h1 hk
    simp only [backB, Blk.var.injEq] at h1
    obtain ⟨rfl, rfl⟩ := h1
    exact ⟨cs0, hk, rfl, h2⟩

mutual
theorem back_rep : ∀ (x : IV) (u : Value), Rep Γ' w' x u → Rep Γ w' (back f v x) u
  | .undef, _, _ => trivial
  | .int _ _, _, hr => hr
  | .bool _, _, hr => hr
  | .str _, _, hr => hr
  | .nilp, _, hr => hr
  | .nilf, _, hr => hr
  | .nili, _, hr => hr
  | .fsl .., _, hr => RepC.mono (fun g h => ⟨hok g h, rfl⟩) _ _ hr
  | .fp _, _, hr => RepC.mono (fun g h => ⟨hok g h, rfl⟩) _ _ hr
  | .gd .., _, _ => trivial
  | .agg l, _, hr => by
    simp only [Rep, back] at hr ⊢
    obtain ⟨vs, e, hl⟩ := hr
    exact ⟨vs, e, backL_rep l vs hl⟩
  | .tup l, _, hr => by
    simp only [Rep, back] at hr ⊢
    obtain ⟨vs, e, hl⟩ := hr
    exact ⟨vs, e, backL_rep l vs hl⟩
  | .fn g l, _, hr => by
    simp only [Rep, back] at hr ⊢
    obtain ⟨vs, e, hl⟩ := hr
    exact ⟨vs, e, backL_rep l vs hl⟩
  | .osl b ver, u, hr => by
    simp only [Rep, back, RefO] at hr ⊢
    refine ⟨(List.getElem?_eq_some_iff.1 (hT b _ (List.getElem?_eq_getElem hr.1)).1).1, hr.2.1, fun ver' fz e l h => ?_⟩
    obtain ⟨v0, k1, rfl, k2⟩ := back_row hok hT hr.1 h
    obtain ⟨m1, m2⟩ := hr.2.2 _ _ _ _ k1
    refine ⟨by omega, fun hv => ?_⟩
    rw [k2]
    exact m2 (by omega)
  | .vsl b ver lo n, u, hr => by
    simp only [Rep, back, RefV] at hr ⊢
    refine ⟨(List.getElem?_eq_some_iff.1 (hT b _ (List.getElem?_eq_getElem hr.1)).1).1, hr.2.1, fun ver' fz e l h => ?_⟩
    obtain ⟨v0, k1, rfl, k2⟩ := back_row hok hT hr.1 h
    obtain ⟨m1, m2⟩ := hr.2.2 _ _ _ _ k1
    refine ⟨by omega, fun hv => ?_⟩
    rw [k2]
    exact m2 (by omega)
  | .vsv b lo n, u, hr => by
    simp only [Rep, back, RefA] at hr ⊢
    refine ⟨(List.getElem?_eq_some_iff.1 (hT b _ (List.getElem?_eq_getElem hr.1)).1).1, hr.2.1, fun fz cs h => ?_⟩
    obtain ⟨cs0, k1, rfl, k2⟩ := back_var hok hT hr.1 h
    rw [k2, backL_len]
    exact hr.2.2 _ _ k1
  | .ep b ver i off, u, hr => by
    simp only [Rep, back, RefE] at hr ⊢
    refine ⟨(List.getElem?_eq_some_iff.1 (hT b _ (List.getElem?_eq_getElem hr.1)).1).1, hr.2.1, fun ver' fz e l h => ?_⟩
    obtain ⟨v0, k1, rfl, k2⟩ := back_row hok hT hr.1 h
    obtain ⟨m1, m2⟩ := hr.2.2 _ _ _ _ k1
    refine ⟨by omega, fun hv => ?_⟩
    rw [k2]
    exact m2 (by omega)
  | .ptr b off, u, hr => by
    simp only [Rep, back, RefP] at hr ⊢
    refine ⟨(List.getElem?_eq_some_iff.1 (hT b _ (List.getElem?_eq_getElem hr.1)).1).1, hr.2.1, fun fz cs h => ?_⟩
    obtain ⟨cs0, k1, rfl, k2⟩ := back_var hok hT hr.1 h
    rw [k2]
    exact hr.2.2 _ _ k1
  | .yf b, u, hr => trivial
theorem backL_rep : ∀ (l : List IV) (us : List Value), RepL Γ' w' l us → RepL Γ w' (backL f v l) us
  | [], _, hr => hr
  | x :: xs, _, hr => by
    simp only [RepL, backL] at hr ⊢
    obtain ⟨u, us, e, hx, hl⟩ := hr
    exact ⟨u, us, e, back_rep x u hx, backL_rep xs us hl⟩
end

theorem backB_rep {n : Nat} {k : Blk} {og : Option Nat} (hnk : ∀ g, og = some g → k.live = true → k.own = true → ¬ Γ.ok g) (h : BlkRep Γ' w' k og) : BlkRep Γ w' (backB f v n k) og := by
  cases k with
  | dead => trivial
  | lp j =>
    obtain ⟨g, r, h1, h2, h3, h4⟩ := h
    exact ⟨g, r, h1, h2, h3, hnk g h1 rfl rfl⟩
  | var fz cs =>
    obtain ⟨g, arr, ty, h1, h2, h3, h4, h5⟩ := h
    exact ⟨g, arr, ty, h1, h2, backL_rep hok hT _ _ h3, fun hf => hok g (h4 hf), fun hf => hnk g h1 rfl (by simp [Blk.own, hf])⟩
  | row ver fz e l =>
    rcases h with h | ⟨g, arr, ty, h1, h2, h3, h4, h5, h6⟩
    · exact .inl h
    · exact .inr ⟨g, arr, ty, h1, h2, h3, RepEs.mono (fun g h => ⟨hok g h, rfl⟩) e g rfl 0 l h4, fun hf => hok g (h5 hf), fun hf => hnk g h1 rfl (by simp [Blk.own, hf])⟩
end

/-! ### Scalars -/
mutual
theorem scalar_rep {Γ Γ' : Cx} {w w' : World} : ∀ (x : IV) (v : Value), scalar x = true → Rep Γ w x v → Rep Γ' w' x v
  | .undef, _, _, _ => trivial
  | .int _ _, _, _, hr => hr
  | .bool _, _, _, hr => hr
  | .str _, _, _, hr => hr
  | .nilp, _, _, hr => hr
  | .nilf, _, _, hr => hr
  | .nili, _, _, hr => hr
  | .agg l, _, h, hr => by
    simp only [scalar] at h
    simp only [Rep] at hr ⊢
    obtain ⟨vs, e, hl⟩ := hr
    exact ⟨vs, e, scalarL_rep l vs h hl⟩
  | .tup l, _, h, hr => by
    simp only [scalar] at h
    simp only [Rep] at hr ⊢
    obtain ⟨vs, e, hl⟩ := hr
    exact ⟨vs, e, scalarL_rep l vs h hl⟩
  | .fsl .., _, h, _ => by simp [scalar] at h
  | .fp _, _, h, _ => by simp [scalar] at h
  | .gd .., _, h, _ => by simp [scalar] at h
  | .fn .., _, h, _ => by simp [scalar] at h
  | .osl .., _, h, _ => by simp [scalar] at h
  | .vsl .., _, h, _ => by simp [scalar] at h
  | .vsv .., _, h, _ => by simp [scalar] at h
  | .ep .., _, h, _ => by simp [scalar] at h
  | .ptr .., _, h, _ => by simp [scalar] at h
  | .yf .., _, h, _ => by simp [scalar] at h
theorem scalarL_rep {Γ Γ' : Cx} {w w' : World} : ∀ (l : List IV) (vs : List Value), scalarL l = true → RepL Γ w l vs → RepL Γ' w' l vs
  | [], _, _, hr => hr
  | x :: xs, _, h, hr => by
    simp only [scalarL, Bool.and_eq_true] at h
    simp only [RepL] at hr ⊢
    obtain ⟨v, us, e, hx, hl⟩ := hr
    exact ⟨v, us, e, scalar_rep x v h.1 hx, scalarL_rep xs us h.2 hl⟩
end
mutual
theorem scalar_frz {T : List Blk} : ∀ x : IV, scalar x = true → frz T x = some (x, [])
  | .undef, h => by simp [scalar] at h
  | .int _ _, _ => rfl
  | .bool _, _ => rfl
  | .str _, _ => rfl
  | .nilp, _ => rfl
  | .nilf, _ => rfl
  | .nili, _ => rfl
  | .agg l, h => by
    simp only [scalar] at h
    simp only [frz, scalarL_frz l h]
    rfl
  | .tup l, h => by
    simp only [scalar] at h
    simp only [frz, scalarL_frz l h]
    rfl
  | .fsl .., h => by simp [scalar] at h
  | .fp _, h => by simp [scalar] at h
  | .gd .., h => by simp [scalar] at h
  | .fn .., h => by simp [scalar] at h
  | .osl .., h => by simp [scalar] at h
  | .vsl .., h => by simp [scalar] at h
  | .vsv .., h => by simp [scalar] at h
  | .ep .., h => by simp [scalar] at h
  | .ptr .., h => by simp [scalar] at h
  | .yf .., h => by simp [scalar] at h
theorem scalarL_frz {T : List Blk} : ∀ l : List IV, scalarL l = true → frzL T l = some (l, [])
  | [], _ => rfl
  | x :: xs, h => by
    simp only [scalarL, Bool.and_eq_true] at h
    simp only [frzL, scalar_frz x h.1, scalarL_frz xs h.2]
    rfl
theorem scalar_back {f v : Nat → Nat} : ∀ x : IV, scalar x = true → back f v x = x
  | .undef, h => by simp [scalar] at h
  | .int _ _, _ => rfl
  | .bool _, _ => rfl
  | .str _, _ => rfl
  | .nilp, _ => rfl
  | .nilf, _ => rfl
  | .nili, _ => rfl
  | .agg l, h => by
    simp only [scalar] at h
    simp only [back, scalarL_back l h]
  | .tup l, h => by
    simp only [scalar] at h
    simp only [back, scalarL_back l h]
  | .fsl .., h => by simp [scalar] at h
  | .fp _, h => by simp [scalar] at h
  | .gd .., h => by simp [scalar] at h
  | .fn .., h => by simp [scalar] at h
  | .osl .., h => by simp [scalar] at h
  | .vsl .., h => by simp [scalar] at h
  | .vsv .., h => by simp [scalar] at h
  | .ep .., h => by simp [scalar] at h
  | .ptr .., h => by simp [scalar] at h
  | .yf .., h => by simp [scalar] at h
theorem scalarL_back {f v : Nat → Nat} : ∀ l : List IV, scalarL l = true → backL f v l = l
  | [], _ => rfl
  | x :: xs, h => by
    simp only [scalarL, Bool.and_eq_true] at h
    simp only [backL, scalar_back x h.1, scalarL_back xs h.2]
end
end Go.Im

namespace Go.Im
open Go
set_option linter.unusedVariables false
set_option linter.unusedSimpArgs false
set_option linter.unnecessarySimpa false
set_option linter.unusedSectionVars false

theorem setAll_len {α : Type} : ∀ (hd : List Nat) (ks T : List α), (setAll T hd ks).length = T.length
  | [], ks, T => by cases ks <;> simp [setAll]
  | b :: hd, [], T => by simp [setAll]
  | b :: hd, k :: ks, T => by simp only [setAll]; rw [setAll_len hd ks]; simp

theorem setAll_other {α : Type} : ∀ (hd : List Nat) (ks T : List α) (c : Nat), c ∉ hd → (setAll T hd ks)[c]? = T[c]?
  | [], ks, T, c, _ => by cases ks <;> simp [setAll]
  | b :: hd, [], T, c, _ => by simp [setAll]
  | b :: hd, k :: ks, T, c, h => by
    simp only [setAll]
    rw [setAll_other hd ks _ c (fun hm => h (List.mem_cons_of_mem _ hm)), List.getElem?_set_ne (fun e => h (by rw [e]; exact List.mem_cons_self ..))]

theorem setAll_get {α : Type} : ∀ (hd : List Nat) (ks T : List α) (i b : Nat) (k : α), hd.Nodup → (∀ b ∈ hd, b < T.length) → hd[i]? = some b → ks[i]? = some k → (setAll T hd ks)[b]? = some k
  | [], ks, T, i, b, k, _, _, h, _ => by simp at h
  | c :: hd, [], T, i, b, k, _, _, _, h => by simp at h
  | c :: hd, k0 :: ks, T, 0, b, k, hn, hl, h1, h2 => by
    simp at h1 h2
    subst h1 h2
    simp only [setAll]
    rw [setAll_other hd ks _ c (List.nodup_cons.1 hn).1, List.getElem?_set_self (hl c (List.mem_cons_self ..))]
  | c :: hd, k0 :: ks, T, i + 1, b, k, hn, hl, h1, h2 => by
    simp only [setAll]
    exact setAll_get hd ks _ i b k (List.nodup_cons.1 hn).2 (fun b hb => by simpa using hl b (List.mem_cons_of_mem _ hb)) (by simpa using h1) (by simpa using h2)

section
variable {α : Type} {T ks : List α} {hd : List Nat}
theorem putBack_len : (putBack T hd ks).length = T.length + (ks.length - hd.length) := by simp [putBack, setAll_len]
theorem putBack_other {c : Nat} (h : c ∉ hd) (hc : c < T.length) : (putBack T hd ks)[c]? = T[c]? := by
  unfold putBack
  rw [List.getElem?_append_left (by rw [setAll_len]; exact hc), setAll_other _ _ _ _ h]
theorem putBack_get {i : Nat} {k : α} (hn : hd.Nodup) (hl : ∀ b ∈ hd, b < T.length) (h : ks[i]? = some k) : (putBack T hd ks)[fbk hd T.length i]? = some k := by
  unfold putBack fbk
  split
  · rename_i hi
    have hb : hd[i]? = some (hd.getD i 0) := by simp [List.getD, hi]
    rw [List.getElem?_append_left (by rw [setAll_len]; exact hl _ (List.mem_of_getElem? hb))]
    exact setAll_get hd _ T i _ k hn hl hb (by rw [List.getElem?_take, if_pos hi]; exact h)
  · rename_i hi
    rw [List.getElem?_append_right (by rw [setAll_len]; omega), setAll_len, List.getElem?_drop]
    rw [show hd.length + (T.length + (i - hd.length) - T.length) = i by omega]
    exact h
/-- Which index a place has. -/
theorem putBack_cases (hn : hd.Nodup) (hl : ∀ b ∈ hd, b < T.length) (hk : hd.length ≤ ks.length) {c : Nat} (hc : c < (putBack T hd ks).length) :
    (c < T.length ∧ c ∉ hd) ∨ ∃ i, i < ks.length ∧ c = fbk hd T.length i := by
  rw [putBack_len] at hc
  by_cases h : c < T.length
  · by_cases hm : c ∈ hd
    · obtain ⟨i, hi⟩ := idx_of_mem hm
      have h2 := idx_some hi
      have h3 := (List.getElem?_eq_some_iff.1 h2).1
      exact .inr ⟨i, by omega, by simp only [fbk]; rw [if_pos h3]; simp only [List.getD, h2, Option.getD_some]⟩
    · exact .inl ⟨h, hm⟩
  · refine .inr ⟨hd.length + (c - T.length), by omega, ?_⟩
    simp only [fbk]
    rw [if_neg (by omega)]
    omega
end

theorem getD_some {ρ : List (Option Nat)} {b g : Nat} (h : (ρ[b]?).getD none = some g) : ρ[b]? = some (some g) := by
  cases hx : ρ[b]? with
  | none => rw [hx] at h; simp at h
  | some y => rw [hx] at h; simpa using h

def Cx.put (Γb Γ' : Cx) (hd : List Nat) (v : Nat → Nat) (okf : Nat → Prop) : Cx :=
  ⟨okf, putBack Γb.T hd (backBs (fbk hd Γb.T.length) v 0 Γ'.T), putBack Γb.ρ hd Γ'.ρ⟩

section
variable {Γb Γc Γ' : Cx} {w w' : World} {hd : List Nat} {v : Nat → Nat} {okf : Nat → Prop}

theorem put_get (hi' : Inv Γ' w') (hib : Inv Γb w) (hn : hd.Nodup) (hl : ∀ b ∈ hd, b < Γb.T.length) {i : Nat} {k : Blk} (h : Γ'.T[i]? = some k) :
    (Γb.put Γ' hd v okf).T[fbk hd Γb.T.length i]? = some (backB (fbk hd Γb.T.length) v (v i) k) ∧ (Γb.put Γ' hd v okf).ρ[fbk hd Γb.T.length i]? = Γ'.ρ[i]? := by
  refine ⟨?_, ?_⟩
  · simp only [Cx.put]
    refine putBack_get hn hl ?_
    rw [backBs_get, h, Nat.zero_add]
    rfl
  · have hlt : i < Γ'.ρ.length := by rw [hi'.len]; exact (List.getElem?_eq_some_iff.1 h).1
    simp only [Cx.put]
    rw [List.getElem?_eq_getElem hlt, ← hib.len]
    exact putBack_get hn (by rw [hib.len]; exact hl) (List.getElem?_eq_getElem hlt)

theorem back_step (hib : Inv Γb w) (hn : hd.Nodup) (hl : ∀ b ∈ hd, b < Γb.T.length) (hcT : Γc.T = (Γb.sub false 0 hd).T) (hcρ : Γc.ρ = (Γb.sub false 0 hd).ρ) (hfr : Fr hd.length Γc w Γ' w')
    (hv : ∀ i b ver fz e l, hd[i]? = some b → Γb.T[b]? = some (.row ver fz e l) → ver ≤ v i)
    (hok1 : ∀ g, Γb.ok g → okf g ∧ w'.heap[g]? = w.heap[g]?) (hok2 : ∀ g, okf g → Γ'.ok g) (hokp : ∀ g, okf g → Γb.ok g ∨ Γc.own g ∨ w.heap.size ≤ g)
    (hcon : ∀ i k, Γ'.T[i]? = some k → BlkRep (Γb.put Γ' hd v okf) w' (backB (fbk hd Γb.T.length) v (v i) k) ((Γ'.ρ[i]?).getD none)) : Step Γb w (Γb.put Γ' hd v okf) w' := by
  have hi' := hfr.inv
  have hown : ∀ g, Γc.own g → ∃ b k, b ∈ hd ∧ Γb.T[b]? = some k ∧ k.own = true ∧ Γb.ρ[b]? = some (some g) := by
    intro g hg
    have : (Γb.sub false 0 hd).own g := by
      obtain ⟨b, k, h1, h2, h3⟩ := hg
      exact ⟨b, k, by rw [← hcT]; exact h1, h2, by rw [← hcρ]; exact h3⟩
    exact sub_own this
  have hliv : ∀ g, Γc.liv g → ∃ b k, b ∈ hd ∧ Γb.T[b]? = some k ∧ k.live = true ∧ Γb.ρ[b]? = some (some g) := by
    intro g hg
    have : (Γb.sub false 0 hd).liv g := by
      obtain ⟨b, k, h1, h2, h3⟩ := hg
      exact ⟨b, k, by rw [← hcT]; exact h1, h2, by rw [← hcρ]; exact h3⟩
    exact sub_liv this
  have hnT : (Γb.put Γ' hd v okf).T.length = Γb.T.length + (Γ'.T.length - hd.length) := by simp [Cx.put, putBack_len, backBs_len]
  have hcase : ∀ c k, (Γb.put Γ' hd v okf).T[c]? = some k → (c < Γb.T.length ∧ c ∉ hd ∧ Γb.T[c]? = some k ∧ (Γb.put Γ' hd v okf).ρ[c]? = Γb.ρ[c]?) ∨
      ∃ i k', Γ'.T[i]? = some k' ∧ c = fbk hd Γb.T.length i ∧ k = backB (fbk hd Γb.T.length) v (v i) k' ∧ (Γb.put Γ' hd v okf).ρ[c]? = Γ'.ρ[i]? := by
    intro c k hc
    have hlt := (List.getElem?_eq_some_iff.1 hc).1
    rcases putBack_cases (T := Γb.T) (ks := backBs (fbk hd Γb.T.length) v 0 Γ'.T) hn hl (by rw [backBs_len]; exact hfr.len) hlt with ⟨h1, h2⟩ | ⟨i, h1, rfl⟩
    · refine .inl ⟨h1, h2, ?_, ?_⟩
      · simp only [Cx.put] at hc
        rwa [putBack_other h2 h1] at hc
      · simp only [Cx.put]
        rw [putBack_other h2 (by rw [hib.len]; exact h1)]
    · rw [backBs_len] at h1
      obtain ⟨k1, k2⟩ := put_get (v := v) (okf := okf) hi' hib hn hl (List.getElem?_eq_getElem h1)
      rw [k1] at hc
      cases hc
      exact .inr ⟨i, _, List.getElem?_eq_getElem h1, rfl, rfl, k2⟩
  have hheap : ∀ c k g, c ∉ hd → Γb.T[c]? = some k → k.live = true → Γb.ρ[c]? = some (some g) → w'.heap[g]? = w.heap[g]? := by
    intro c k g hc h1 h2 h3
    refine hfr.frm.heap g (blk_lt hib h1 h2 h3) fun ho => ?_
    obtain ⟨b, k1, m1, m2, m3, m4⟩ := hown g ho
    exact hc (hib.inj b c g k1 k m2 (own_live m3) h1 h2 m4 h3 ▸ m1)
  have hext : Ext Γb (Γb.put Γ' hd v okf) w w' := by
    refine ⟨hok1, by rw [hnT]; omega, ?_, ?_, ?_⟩
    · intro b fz' cs' hb hT
      rcases hcase b _ hT with ⟨h1, h2, h3, h4⟩ | ⟨i, k', h1, h2, h3, h4⟩
      · exact ⟨fz', cs', h3, rfl, h4⟩
      · cases k' with
        | dead => cases h3
        | lp => cases h3
        | row => cases h3
        | var fz0 cs0 =>
          simp only [backB, Blk.var.injEq] at h3
          obtain ⟨rfl, rfl⟩ := h3
          have hi : i < hd.length := by
            rcases Nat.lt_or_ge i hd.length with h | h
            · exact h
            · rw [h2, fbk, if_neg (by omega)] at hb; omega
          have hbi : hd[i]? = some b := by rw [h2, fbk, if_pos hi]; simp [List.getD, hi]
          obtain ⟨fz1, cs1, m1, m2, m3⟩ := hfr.var i _ _ hi h1
          rw [hcT] at m1
          rw [hcρ] at m3
          obtain ⟨b', n1, n2, n3⟩ := sub_blk m1
          rw [hbi] at n1
          cases n1
          obtain ⟨cs2, p1, rfl⟩ := renB_var n2.symm
          refine ⟨fz1, cs2, p1, by rw [backL_len, ← m2, renL_len], ?_⟩
          rw [h4, m3, n3]
          obtain ⟨g, _, _, hg, _⟩ := hib.var b _ _ p1
          rw [hg]; rfl
    · intro b ver' fz' e' l' hb hT
      rcases hcase b _ hT with ⟨h1, h2, h3, h4⟩ | ⟨i, k', h1, h2, h3, h4⟩
      · refine ⟨ver', fz', e', l', h3, Nat.le_refl _, fun _ => ⟨rfl, rfl, h4, fun g arr ty hg ha => ⟨arr, ?_, rfl⟩⟩⟩
        rw [hheap b _ g h2 h3 rfl hg]
        exact ha
      · cases k' with
        | dead => cases h3
        | lp => cases h3
        | var => cases h3
        | row v0 fz0 e0 l0 =>
          simp only [backB, Blk.row.injEq] at h3
          obtain ⟨rfl, rfl, rfl, rfl⟩ := h3
          have hi : i < hd.length := by
            rcases Nat.lt_or_ge i hd.length with h | h
            · exact h
            · rw [h2, fbk, if_neg (by omega)] at hb; omega
          have hbi : hd[i]? = some b := by rw [h2, fbk, if_pos hi]; simp [List.getD, hi]
          obtain ⟨v1, fz1, e1, l1, m1, m2⟩ := hfr.row i _ _ _ _ hi h1
          rw [hcT] at m1
          rw [hcρ] at m2
          obtain ⟨b', n1, n2, n3⟩ := sub_blk m1
          rw [hbi] at n1
          cases n1
          obtain ⟨v2, _, p1⟩ := renB_row n2.symm
          have := hv i b _ _ _ _ hbi p1
          refine ⟨v2, fz1, e1, l1, p1, by omega, fun hh => ?_⟩
          obtain ⟨_, q2, q3, q4, q5⟩ := m2 (by omega)
          have hlb : b < Γb.ρ.length := by rw [hib.len]; exact (List.getElem?_eq_some_iff.1 p1).1
          have hρ : Γ'.ρ[i]? = Γb.ρ[b]? := by
            rw [q4, n3, List.getElem?_eq_getElem hlb]
            rfl
          refine ⟨q2, q3, h4.trans hρ, fun g arr ty hg ha => q5 g arr ty ?_ ha⟩
          rw [n3, hg]
          rfl
    · intro b j' hb hT
      rcases hcase b _ hT with ⟨h1, h2, h3, h4⟩ | ⟨i, k', h1, h2, h3, h4⟩
      · exact ⟨j', h3, h4⟩
      · cases k' with
        | dead => cases h3
        | row => cases h3
        | var => cases h3
        | lp j0 =>
          simp only [backB, Blk.lp.injEq] at h3
          subst h3
          have hi : i < hd.length := by
            rcases Nat.lt_or_ge i hd.length with h | h
            · exact h
            · rw [h2, fbk, if_neg (by omega)] at hb; omega
          have hbi : hd[i]? = some b := by rw [h2, fbk, if_pos hi]; simp [List.getD, hi]
          obtain ⟨j1, m1, m3⟩ := hfr.lp i _ hi h1
          rw [hcT] at m1
          rw [hcρ] at m3
          obtain ⟨b', n1, n2, n3⟩ := sub_blk m1
          rw [hbi] at n1
          cases n1
          refine ⟨j1, renB_lp n2.symm, ?_⟩
          rw [h4, m3, n3]
          obtain ⟨g, _, hg, _⟩ := hib.lp b _ (renB_lp n2.symm)
          rw [hg]; rfl
  have hlivg : ∀ c k g, c ∉ hd → Γb.T[c]? = some k → k.live = true → Γb.ρ[c]? = some (some g) → ¬ Γc.own g ∧ ¬ Γ'.liv g := by
    intro c k g hc h1 h2 h3
    have hlt := blk_lt hib h1 h2 h3
    refine ⟨fun ho => ?_, fun ho => ?_⟩
    · obtain ⟨b, k1, m1, m2, m3, m4⟩ := hown g ho
      exact hc (hib.inj b c g k1 k m2 (own_live m3) h1 h2 m4 h3 ▸ m1)
    · rcases hfr.liv g ho with ho | ho
      · obtain ⟨b, k1, m1, m2, m3, m4⟩ := hliv g ho
        exact hc (hib.inj b c g k1 k m2 m3 h1 h2 m4 h3 ▸ m1)
      · omega
  refine ⟨inv_of ?_ ?_ ?_ ?_, hext, ⟨hfr.frm.lps, hfr.frm.os, hfr.frm.tape, hfr.frm.output, hfr.frm.size, ?_⟩, ?_, ?_, ?_⟩
  · simp only [Cx.put, putBack_len, backBs_len, hib.len, hi'.len]
  · intro g h
    exact hi'.okb g (hok2 g h)
  · intro c k hc
    rcases hcase c k hc with ⟨h1, h2, h3, h4⟩ | ⟨i, k', h1, h2, h3, h4⟩
    · obtain ⟨og, m1, m2⟩ := inv_blk hib h3
      refine ⟨og, h4.trans m1, ?_⟩
      cases k with
      | dead => trivial
      | _ =>
        refine m2.ext hext (fun g e _ => ⟨fun h => ?_, fun h => (hok1 g h).1⟩) (fun g e => hheap c _ g h2 h3 rfl (by rw [m1, e]))
        rcases hokp g h with h | h | h
        · exact h
        · exact absurd h (hlivg c _ g h2 h3 rfl (by rw [m1, e])).1
        · have := blk_lt hib h3 rfl (by rw [m1, e]); omega
    · subst h3
      have hlt : i < Γ'.ρ.length := by rw [hi'.len]; exact (List.getElem?_eq_some_iff.1 h1).1
      refine ⟨_, h4.trans (List.getElem?_eq_getElem hlt), ?_⟩
      have := hcon i k' h1
      rwa [List.getElem?_eq_getElem hlt] at this
  · intro c c' g k1 k2 h1 l1 h2 l2 r1 r2
    rcases hcase c k1 h1 with ⟨a1, a2, a3, a4⟩ | ⟨i, k', a1, a2, a3, a4⟩ <;> rcases hcase c' k2 h2 with ⟨b1, b2, b3, b4⟩ | ⟨j, k'', b1, b2, b3, b4⟩
    · exact hib.inj c c' g k1 k2 a3 l1 b3 l2 (a4 ▸ r1) (b4 ▸ r2)
    · subst b3
      rw [(backB_live _ _ _ _).1] at l2
      exact absurd ⟨j, k'', b1, l2, b4 ▸ r2⟩ (hlivg c k1 g a2 a3 l1 (a4 ▸ r1)).2
    · subst a3
      rw [(backB_live _ _ _ _).1] at l1
      exact absurd ⟨i, k', a1, l1, a4 ▸ r1⟩ (hlivg c' k2 g b2 b3 l2 (b4 ▸ r2)).2
    · subst a3 b3
      rw [(backB_live _ _ _ _).1] at l1 l2
      rw [a2, b2, hi'.inj i j g k' k'' a1 l1 b1 l2 (a4 ▸ r1) (b4 ▸ r2)]
  · intro g hg hno
    refine hfr.frm.heap g hg fun ho => hno ?_
    obtain ⟨b, k1, m1, m2, m3, m4⟩ := hown g ho
    exact ⟨b, k1, m2, m3, m4⟩
  · intro g ⟨c, k, hc, ho, hr⟩
    rcases hcase c k hc with ⟨a1, a2, a3, a4⟩ | ⟨i, k', a1, a2, a3, a4⟩
    · exact .inl ⟨c, k, a3, ho, a4 ▸ hr⟩
    · subst a3
      rw [(backB_live _ _ _ _).2] at ho
      rcases hfr.own g ⟨i, k', a1, ho, a4 ▸ hr⟩ with h | h
      · obtain ⟨b, k1, m1, m2, m3, m4⟩ := hown g h
        exact .inl ⟨b, k1, m2, m3, m4⟩
      · exact .inr h
  · intro g hg
    rcases hokp g hg with h | h | h
    · exact .inl h
    · obtain ⟨b, k1, m1, m2, m3, m4⟩ := hown g h
      exact .inr (.inl ⟨b, k1, m2, m3, m4⟩)
    · exact .inr (.inr h)
  · intro g ⟨c, k, hc, ho, hr⟩
    rcases hcase c k hc with ⟨a1, a2, a3, a4⟩ | ⟨i, k', a1, a2, a3, a4⟩
    · exact .inl ⟨c, k, a3, ho, a4 ▸ hr⟩
    · subst a3
      rw [(backB_live _ _ _ _).1] at ho
      rcases hfr.liv g ⟨i, k', a1, ho, a4 ▸ hr⟩ with h | h
      · obtain ⟨b, k1, m1, m2, m3, m4⟩ := hliv g h
        exact .inl ⟨b, k1, m2, m3, m4⟩
      · exact .inr h
end
end Go.Im

namespace Go.Im
open Go
set_option linter.unusedVariables false
set_option linter.unusedSimpArgs false
set_option linter.unnecessarySimpa false
set_option linter.unusedSectionVars false

/-- No slot is guarded. -/
def NoGd (tm : List IV) : Prop := ∀ (t j : Nat) (w c : Bool) (x : IV), tm[t]? ≠ some (.gd j w c x)

/-- A function of the ideal machine tells what the machine's does. -/
def CallOK (P : Program) (H : Hint) (call : CallF) : Prop :=
  ∀ (f : FuncId) (as : List IV) (T : List Blk) (r : IV) (T1 : List Blk), call f as T = some (r, T1) →
    (∃ fn, P.funcs[f]? = some fn ∧ fn.name ≠ "runtime.NumGoroutine" ∧ fn.body.isSome = true) ∧
    ∀ (Γ : Cx) (w : World) (vs : List Value), Inv Γ w → Γ.T = T → GlOK H Γ w → RepL Γ w as vs →
      NoGd as → Calls P f vs.toArray w fun e w' => ∃ v Γ', e = .returned v ∧ Γ'.T = T1 ∧ Fr T.length Γ w Γ' w' ∧ Rep Γ' w' r v

/-- The fence that lets all in, at a round or none. -/
def FW (r : Option Nat) : Fence := { fn := fun _ => True, depth := none, alive := false, round := r }
theorem callsIn_fw {r : Option Nat} {n : Nat} {P : Program} {f : FuncId} {args : Array Value} {w : World} {R : Ending → World → Prop} : CallsIn (FW r) n P f args w R ↔ Calls P f args w R :=
  callsIn_wide (n := n)

/-- What else holds while a function runs, from a place in the heap on: as it is for one that a loop goes over. -/
structure KC where
  n0 : Nat
  q : Nat
  G : Cx → World → Prop
  step : ∀ Γ w Γ' w', Inv Γ w → G Γ w → Step Γ w Γ' w' → G Γ' w'
  sub : ∀ Γ w bp p bs, Inv Γ w → G Γ w → q ≤ p → (∀ b, b < p → bs[b]? = some b) → G (Γ.sub bp p bs) w
def KC.plain (n0 : Nat) : KC := ⟨n0, 0, fun _ _ => True, fun _ _ _ _ _ _ _ => trivial, fun _ _ _ _ _ _ _ _ _ => trivial⟩

/-- What is done where a round is called for. -/
def YieldOK (K : KC) (P : Program) (H : Hint) (Y : YF) : Prop :=
  ∀ (as : List IV) (T : List Blk) (r : IV) (T1 : List Blk), Y as T = some (r, T1) → ∃ b xs, as = .yf b :: xs ∧ (∃ j, T[b]? = some (.lp j)) ∧
    ∀ (Γ : Cx) (w : World) (l : Nat) (vs : List Value), Inv Γ w → Γ.T = T → GlOK H Γ w → K.G Γ w → Γ.ρ[b]? = some (some l) → RepL Γ w xs vs →
      ∃ f tmps asg bod, (Instr.yield l vs.toArray).run P w = .ok (.round l f tmps asg bod) w ∧
        ∀ n, RoundIn (FW none) n P l f tmps asg bod w fun e w' => ∃ v Γ', e = .returned v ∧ Γ'.T = T1 ∧ Step Γ w Γ' w' ∧ Rep Γ' w' r v
structure CallsOK (K : KC) (P : Program) (H : Hint) (call : CallF) : Prop where
  fn : CallOK P H fun f as T => match Nat.beq f YID with | true => none | false => call f as T
  y : YieldOK K P H (call YID)
theorem CallOK.calls {K : KC} {P : Program} {H : Hint} {call : CallF} (hsz : P.funcs.size ≤ YID) (h : CallOK P H call) : CallsOK K P H call := by
  refine ⟨fun f as T r T1 hc => ?_, fun as T r T1 hc => ?_⟩
  · dsimp only at hc
    split at hc
    · cases hc
    · exact h f as T r T1 hc
  · obtain ⟨⟨fn, hf, _⟩, _⟩ := h YID as T r T1 hc
    have := (Array.getElem?_eq_some_iff.1 hf).1
    omega

theorem lend_nogd {f : Nat → Option Nat} {T : List Blk} {x y : IV} {bs : List Nat} (h : lend f T x = some (y, bs)) : ∀ j w c z, y ≠ .gd j w c z := by
  intro j w c z e
  subst e
  cases x with
  | gd => simp [lend] at h
  | undef => simp [lend] at h
  | _ =>
    simp only [lend] at h
    first
      | (cases h; done)
      | (repeat' split at h
         all_goals first
          | (cases h; done)
          | (obtain ⟨_, _, h2⟩ := Option.map_eq_some_iff.1 h; cases h2; done))
      | (obtain ⟨_, _, h2⟩ := Option.map_eq_some_iff.1 h; cases h2; done)

theorem lendL_nogd {f : Nat → Option Nat} {T : List Blk} : ∀ (l m : List IV) (bs : List Nat), lendL f T l = some (m, bs) → NoGd m
  | [], m, bs, h => by
    simp only [lendL, Option.some.injEq, Prod.mk.injEq] at h
    obtain ⟨rfl, _⟩ := h
    intro t j w c x hx
    simp at hx
  | x :: xs, m, bs, h => by
    simp only [lendL] at h
    split at h
    · rename_i y p ys q h1 h2
      cases h
      intro t j w c z hz
      cases t with
      | zero => exact lend_nogd h1 j w c z (by simpa using hz)
      | succ t => exact lendL_nogd xs ys q h2 t j w c z (by simpa using hz)
    · cases h

/-- Nothing but frozen memory more. -/
theorem step_pure {Γ : Cx} {w w' : World} {okf : Nat → Prop} (hi : Inv Γ w) (hq : Quiet w w') (hold : ∀ g, g < w.heap.size → w'.heap[g]? = w.heap[g]?)
    (h1 : ∀ g, Γ.ok g → okf g) (h2 : ∀ g, okf g → Γ.ok g ∨ w.heap.size ≤ g) (h3 : ∀ g, okf g → g < w'.heap.size) : Step Γ w ⟨okf, Γ.T, Γ.ρ⟩ w' := by
  have he : Ext Γ ⟨okf, Γ.T, Γ.ρ⟩ w w' := by
    refine ⟨fun g hg => ⟨h1 g hg, hold g (hi.okb g hg)⟩, Nat.le_refl _, fun _ fz cs _ h => ⟨fz, cs, h, rfl, rfl⟩, fun _ ver fz e l _ h => ⟨ver, fz, e, l, h, Nat.le_refl _, fun _ => ⟨rfl, rfl, rfl, fun g arr ty _ ha => ⟨arr, ?_, rfl⟩⟩⟩, fun _ j _ h => ⟨j, h, rfl⟩⟩
    rw [hold g (Array.getElem?_eq_some_iff.1 ha).1]
    exact ha
  refine ⟨inv_of hi.len h3 ?_ hi.inj, he, ⟨lps_old hold, hq.os, hq.tape, hq.output, hq.size, fun g hg _ => hold g hg⟩, fun _ h => .inl h, ?_, fun _ h => .inl h⟩
  · intro b k hb
    obtain ⟨og, m1, m2⟩ := inv_blk hi hb
    refine ⟨og, m1, ?_⟩
    cases k with
    | dead => trivial
    | _ =>
      refine m2.ext he (fun g e _ => ⟨fun h => ?_, h1 g⟩) (fun g e => hold g (blk_lt hi hb rfl (by rw [m1, e])))
      rcases h2 g h with h | h
      · exact h
      · have := blk_lt hi hb rfl (by rw [m1, e]); omega
  · intro g h
    rcases h2 g h with h | h
    · exact .inl h
    · exact .inr (.inr h)

theorem vbk_row {T : List Blk} {hd : List Nat} {i b ver : Nat} {fz : Bool} {e : Nat} {l : List IV} (h : hd[i]? = some b) (hT : T[b]? = some (.row ver fz e l)) : ver ≤ vbk T hd i := by
  have hi := (List.getElem?_eq_some_iff.1 h).1
  have hb : hd.getD i 0 = b := by simp [List.getD, h]
  simp only [vbk]
  rw [if_pos hi, hb]
  simp [verOf, hT]

section
variable {Γ Γ' : Cx} {w w' : World} {hd lent : List Nat}

theorem lent_sub_T (hl : ∀ b ∈ lent, b ∉ hd) : ((Γ.shut lent).sub false 0 hd).T = hd.map (renB false 0 (idx hd) Γ.T) := by
  simp only [Cx.sub, Cx.shut]
  apply List.map_congr_left
  intro b hb
  exact renB_shut fun hm => hl b hm hb

/-- Back, the lent blocks being shut. -/
theorem back_shut (hi : Inv Γ w) (hn : hd.Nodup) (hlt : ∀ b ∈ hd, b < Γ.T.length) (hl : ∀ b ∈ lent, b ∉ hd) (hfr : Fr hd.length ((Γ.shut lent).sub false 0 hd) w Γ' w') :
    Step Γ w ((Γ.shut lent).put Γ' hd (vbk Γ.T hd) Γ'.ok) w' ∧ ∀ x v, Rep Γ' w' x v → Rep ((Γ.shut lent).put Γ' hd (vbk Γ.T hd) Γ'.ok) w' (back (fbk hd Γ.T.length) (vbk Γ.T hd) x) v := by
  have S1 := step_shut hi lent
  have hlen : (Γ.shut lent).T.length = Γ.T.length := shut_len _ _
  have hlt1 : ∀ b ∈ hd, b < (Γ.shut lent).T.length := fun b hb => by rw [hlen]; exact hlt b hb
  have hput : ∀ i k, Γ'.T[i]? = some k → ((Γ.shut lent).put Γ' hd (vbk Γ.T hd) Γ'.ok).T[fbk hd (Γ.shut lent).T.length i]? = some (backB (fbk hd (Γ.shut lent).T.length) (vbk Γ.T hd) (vbk Γ.T hd i) k) ∧
      ((Γ.shut lent).put Γ' hd (vbk Γ.T hd) Γ'.ok).ρ[fbk hd (Γ.shut lent).T.length i]? = Γ'.ρ[i]? := fun i k h => put_get hfr.inv S1.inv hn hlt1 h
  have hok' : ∀ g, Γ'.ok g → ((Γ.shut lent).put Γ' hd (vbk Γ.T hd) Γ'.ok).ok g := fun g h => h
  refine ⟨S1.trans (back_step S1.inv hn hlt1 rfl rfl hfr ?_ (fun g hg => hfr.ok g hg) (fun g hg => hg) (fun g hg => hfr.okp g hg) ?_), ?_⟩
  · intro i b ver fz e l hb hT
    obtain ⟨k, h1, h2⟩ := shut_some hT
    have : ∃ fz0, k = .row ver fz0 e l := by
      split at h2
      · cases k <;> simp [Blk.frozen] at h2
        obtain ⟨rfl, _, rfl, rfl⟩ := h2
        exact ⟨_, rfl⟩
      · exact ⟨fz, h2.symm⟩
    obtain ⟨fz0, rfl⟩ := this
    exact vbk_row hb h1
  · intro i k hk
    obtain ⟨og, m1, m2⟩ := inv_blk hfr.inv hk
    rw [m1]
    refine backB_rep hok' hput ?_ m2
    intro g hg hlv ho
    exact own_not_ok hfr.inv ⟨i, k, hk, ho, by rw [m1, show og = some g from hg]⟩
  · intro x v hx
    rw [← hlen]
    exact back_rep hok' hput x v hx

/-- What is lent, and isn't frozen anyway. -/
def lentOf (Γ : Cx) (lent : List Nat) (g : Nat) : Prop := ∃ b k, b ∈ lent ∧ Γ.T[b]? = some k ∧ k.cel = true ∧ Γ.ρ[b]? = some (some g)

/-- Back, nothing being shut. -/
theorem back_open (hi : Inv Γ w) (hn : hd.Nodup) (hlt : ∀ b ∈ hd, b < Γ.T.length) (hl : ∀ b ∈ lent, b ∉ hd) (hfr : Fr hd.length ((Γ.shut lent).sub false 0 hd) w Γ' w') (hsc : Γ'.T.all scalarB = true) :
    Step Γ w (Γ.put Γ' hd (vbk Γ.T hd) fun g => Γ'.ok g ∧ (Γ.ok g ∨ ¬ lentOf Γ lent g)) w' := by
  have hokp : ∀ g, (Γ'.ok g ∧ (Γ.ok g ∨ ¬ lentOf Γ lent g)) → Γ.ok g ∨ ((Γ.shut lent).sub false 0 hd).own g ∨ w.heap.size ≤ g := by
    intro g ⟨h1, h2⟩
    rcases hfr.okp g h1 with h | h | h
    · rcases h with h | h
      · exact .inl h
      · rcases h2 with h2 | h2
        · exact .inl h2
        · exact absurd h h2
    · exact .inr (.inl h)
    · exact .inr (.inr h)
  have hown : ∀ g, ((Γ.shut lent).sub false 0 hd).own g → ¬ lentOf Γ lent g ∧ ¬ Γ.ok g := by
    intro g hg
    obtain ⟨b, k, m1, m2, m3, m4⟩ := sub_own hg
    obtain ⟨k0, n1, n2⟩ := shut_some m2
    rw [if_neg (fun hm => hl b hm m1)] at n2
    subst n2
    refine ⟨fun ⟨b', k', p1, p2, p3, p4⟩ => ?_, own_not_ok hi ⟨b, k, n1, m3, m4⟩⟩
    have := hi.inj b b' g k k' n1 (own_live m3) p2 (cel_live p3) m4 p4
    subst this
    exact hl b p1 m1
  have hlv : ∀ g, Γ'.liv g → ¬ lentOf Γ lent g := by
    intro g hg hle
    obtain ⟨b', k', p1, p2, p3, p4⟩ := hle
    rcases hfr.liv g hg with h | h
    · obtain ⟨b, k, m1, m2, m3, m4⟩ := sub_liv h
      obtain ⟨k0, n1, n2⟩ := shut_some m2
      rw [if_neg (fun hm => hl b hm m1)] at n2
      subst n2
      have := hi.inj b b' g k k' n1 m3 p2 (cel_live p3) m4 p4
      subst this
      exact hl b p1 m1
    · have := blk_lt hi p2 (cel_live p3) p4
      omega
  refine back_step (Γc := (Γ.shut lent).sub false 0 hd) hi hn hlt (by rw [lent_sub_T hl]; rfl) rfl hfr (fun i b ver fz e l hb hT => vbk_row hb hT) (fun g hg => ⟨⟨(hfr.ok g (.inl hg)).1, .inl hg⟩, (hfr.ok g (.inl hg)).2⟩) (fun g hg => hg.1) hokp ?_
  intro i k hk
  obtain ⟨og, m1, m2⟩ := inv_blk hfr.inv hk
  rw [m1]
  have hsk : scalarB k = true := by
    rw [List.all_eq_true] at hsc
    exact hsc k (List.mem_of_getElem? hk)
  cases k with
  | dead => trivial
  | lp => simp [scalarB] at hsk
  | var fz cs =>
    obtain ⟨g, arr, ty, h1, h2, h3, h4, h5⟩ := m2
    simp only [scalarB] at hsk
    refine ⟨g, arr, ty, h1, h2, ?_, fun hf => ⟨h4 hf, .inr (hlv g ⟨i, _, hk, rfl, by rw [m1, h1]⟩)⟩, fun hf hh => h5 hf hh.1⟩
    rw [scalarL_back _ hsk]
    exact scalarL_rep _ _ hsk h3
  | row ver fz e l =>
    simp only [scalarB, List.isEmpty_iff] at hsk
    subst hsk
    rcases m2 with h | ⟨g, arr, ty, h1, h2, h3, h4, h5, h6⟩
    · exact .inl h
    · exact .inr ⟨g, arr, ty, h1, h2, h3, by simp [RepEs], fun hf => ⟨h5 hf, .inr (hlv g ⟨i, _, hk, rfl, by rw [m1, h1]⟩)⟩, fun hf hh => h6 hf hh.1⟩

/-- Back from a call that was handed nothing. -/
theorem back_none {okf : Nat → Prop} (hi : Inv Γ w) (hfr : Fr 0 ((Γ.shut lent).sub false 0 []) w Γ' w') (h1 : ∀ g, Γ.ok g → okf g) (h2 : ∀ g, okf g → Γ.ok g ∨ w.heap.size ≤ g) (h3 : ∀ g, okf g → g < w'.heap.size) : Step Γ w ⟨okf, Γ.T, Γ.ρ⟩ w' := by
  refine step_pure hi ⟨hfr.frm.os, hfr.frm.tape, hfr.frm.output, hfr.frm.size⟩ (fun g hg => hfr.frm.heap g hg fun ho => ?_) h1 h2 h3
  obtain ⟨b, k, m1, _⟩ := sub_own ho
  cases m1
end

theorem lend_none : (fun _ : Nat => (none : Option Nat)) = idx [] := by
  funext b
  rfl

section
variable {P : Program} {H : Hint} {call : CallF} {Γ : Cx} {w : World} {f : FuncId} {as : List IV} {vs : List Value} {r : IV × List Blk × Kd}

theorem frz_back {Γ2 Γ' : Cx} {w' : World} {r r' : IV} {v : Value} {fr : List Nat} {fb vb : Nat → Nat} (hi : Inv Γ' w') (hr : Rep Γ' w' r v) (hf : frz Γ'.T r = some (r', fr)) (hok : ∀ g, Γ'.ok g → Γ2.ok g)
    (hT : ∀ i k, Γ'.T[i]? = some k → Γ2.T[fb i]? = some (backB fb vb (vb i) k) ∧ Γ2.ρ[fb i]? = Γ'.ρ[i]?) : Rep (Γ2.shut (fr.map fb)) w' r' v := by
  have h1 := frz_rep (bs' := fr) hi r r' fr v hf (fun _ h => h) hr
  refine repC_rep _ _ (RepC.mono (fun g hg => ⟨?_, rfl⟩) _ _ h1)
  rcases hg with hg | ⟨b, k, m1, m2, m3, m4⟩
  · exact .inl (hok g hg)
  · obtain ⟨n1, n2⟩ := hT b k m2
    exact .inr ⟨fb b, _, List.mem_map.2 ⟨b, m1, rfl⟩, n1, by rw [backB_cel]; exact m3, by rw [n2, m4]⟩

theorem do_call (hcall : CallOK P H call) (hi : Inv Γ w) (hgl : GlOK H Γ w) (h : doCall H call Γ.T f as = some r) (hr : RepL Γ w as vs) :
    (∃ fn, P.funcs[f]? = some fn ∧ fn.name ≠ "runtime.NumGoroutine" ∧ fn.body.isSome = true) ∧
    Calls P f vs.toArray w fun e w' => ∃ v Γ', e = .returned v ∧ Γ'.T = r.2.1 ∧ Step Γ w Γ' w' ∧ Rep Γ' w' r.1 v := by
  have main : ∀ (hd : List Nat) (as' : List IV) (lent : List Nat) (r1 : IV) (T1 : List Blk), hd.Nodup → lendL (idx hd) Γ.T as = some (as', lent) → call f as' (hd.map (renB false 0 (idx hd) Γ.T)) = some (r1, T1) →
      (∀ w' Γ' v, Γ'.T = T1 → Fr hd.length ((Γ.shut lent).sub false 0 hd) w Γ' w' → (∀ b ∈ lent, b ∉ hd) → Rep Γ' w' r1 v → ∃ Γ2, Γ2.T = r.2.1 ∧ Step Γ w Γ2 w' ∧ Rep Γ2 w' r.1 v) →
      (∃ fn, P.funcs[f]? = some fn ∧ fn.name ≠ "runtime.NumGoroutine" ∧ fn.body.isSome = true) ∧
      Calls P f vs.toArray w fun e w' => ∃ v Γ', e = .returned v ∧ Γ'.T = r.2.1 ∧ Step Γ w Γ' w' ∧ Rep Γ' w' r.1 v := by
    intro hd as' lent r1 T1 hn hl hc hfin
    obtain ⟨hfn, hcl⟩ := hcall f as' _ r1 T1 hc
    refine ⟨hfn, ?_⟩
    have hout : ∀ b ∈ lent, b ∉ hd := fun b hb => (lendL_out as as' lent hl b hb).1
    have S1 := step_shut hi lent
    refine Calls.mono (hcl ((Γ.shut lent).sub false 0 hd) w vs (sub_inv S1.inv hn) (lent_sub_T hout) (fun g x hx => RepC.mono (fun g hg => ⟨.inl hg, rfl⟩) _ _ (hgl g x hx)) (lendL_rep hi as as' lent vs hl (fun _ h => h) hr) (lendL_nogd as as' lent hl)) ?_
    rintro e w' ⟨v, Γ', rfl, h1, h2, h3⟩
    rw [List.length_map] at h2
    obtain ⟨Γ2, k1, k2, k3⟩ := hfin w' Γ' v h1 h2 hout h3
    exact ⟨v, Γ2, rfl, k1, k2, k3⟩
  unfold doCall at h
  split at h
  · split at h
    · cases h
    · rename_i as' lent hl
      split at h
      · cases h
      · rename_i r1 T1 hc
        rw [lend_none] at hl
        refine main [] as' lent r1 T1 List.nodup_nil hl hc ?_
        intro w' Γ' v hT hfr hout hrv
        subst hT
        have hsz := hfr.inv.okb
        have newp : ∀ (bs : List Nat) g, (Γ'.shut bs).ok g → (Γ.shut lent).ok g ∨ w.heap.size ≤ g := by
          intro bs g hg
          rcases hg with hg | ⟨b, k, m1, m2, m3, m4⟩
          · rcases hfr.okp g hg with h | h | h
            · exact .inl h
            · obtain ⟨b, k, m1, _⟩ := sub_own h
              cases m1
            · exact .inr h
          · rcases hfr.liv g ⟨b, k, m2, cel_live m3, m4⟩ with h | h
            · obtain ⟨b, k, m1, _⟩ := sub_liv h
              cases m1
            · exact .inr h
        split at h
        · split at h
          · cases h
          · rename_i r' fr hf
            have hfz := frz_rep (bs' := fr) hfr.inv r1 r' fr v hf (fun _ h => h) hrv
            by_cases hsc : scalar r1 = true
            · rw [hsc] at h
              cases h
              rw [scalar_frz _ hsc] at hf
              cases hf
              have S := back_none (okf := Γ.ok) hi hfr (fun _ h => h) (fun _ h => .inl h) (fun g hg => hsz g (hfr.ok g (.inl hg)).1)
              exact ⟨Γ, rfl, S, scalar_rep _ _ hsc hrv⟩
            · have hsc : scalar r1 = false := by simpa using hsc
              rw [hsc] at h
              cases lent with
              | nil =>
                cases h
                have S := back_none (okf := (Γ'.shut fr).ok) hi hfr (fun g hg => .inl (hfr.ok g (.inl hg)).1) (fun g hg => by
                  rcases newp fr g hg with h | h
                  · rcases h with h | ⟨b, _, hb, _⟩
                    · exact .inl h
                    · cases hb
                  · exact .inr h) (fun g hg => (step_shut hfr.inv fr).inv.okb g hg)
                exact ⟨⟨(Γ'.shut fr).ok, Γ.T, Γ.ρ⟩, rfl, S, repC_rep (Γ := ⟨(Γ'.shut fr).ok, Γ.T, Γ.ρ⟩) _ _ hfz⟩
              | cons l0 ls =>
                cases h
                have S1 := step_shut hi (l0 :: ls)
                have S := step_pure (okf := (Γ'.shut fr).ok) S1.inv ⟨hfr.frm.os, hfr.frm.tape, hfr.frm.output, hfr.frm.size⟩ (fun g hg => hfr.frm.heap g hg fun ho => by
                  obtain ⟨b, k, m1, _⟩ := sub_own ho
                  cases m1) (fun g hg => .inl (hfr.ok g hg).1) (fun g hg => newp fr g hg) (fun g hg => (step_shut hfr.inv fr).inv.okb g hg)
                exact ⟨⟨(Γ'.shut fr).ok, (Γ.shut (l0 :: ls)).T, (Γ.shut (l0 :: ls)).ρ⟩, rfl, S1.trans S, repC_rep (Γ := ⟨(Γ'.shut fr).ok, (Γ.shut (l0 :: ls)).T, (Γ.shut (l0 :: ls)).ρ⟩) _ _ hfz⟩
        · obtain ⟨S, hb⟩ := back_shut hi List.nodup_nil (by simp) hout hfr
          have hT2 : ((Γ.shut lent).put Γ' [] (vbk Γ.T []) Γ'.ok).T = shut Γ.T lent ++ backBs (fbk [] Γ.T.length) (vbk Γ.T []) 0 Γ'.T := by
            simp [Cx.put, Cx.shut, putBack, setAll, shut_len]
          split at h
          · cases h
            exact ⟨_, hT2, S, hb r1 v hrv⟩
          · cases h
            exact ⟨_, hT2, S, hb r1 v hrv⟩
  · rename_i hd hhd
    split at h
    · rename_i as' lent hl hall
      have hn : (handed Γ.T (H.mv f) as).Nodup := reach_nodup 3 _ (addNew_nodup _ _ List.nodup_nil)
      generalize handed Γ.T (H.mv f) as = hd at *
      have hlt : ∀ b ∈ hd, b < Γ.T.length := by
        intro b hb
        rw [List.all_eq_true] at hall
        simpa using hall b hb
      split at h
      · cases h
      · rename_i r1 T1 hc
        refine main hd as' lent r1 T1 hn hl hc ?_
        intro w' Γ' v hT hfr hout hrv
        subst hT
        have hput2 := back_shut hi hn hlt hout hfr
        have hT2 : ((Γ.shut lent).put Γ' hd (vbk Γ.T hd) Γ'.ok).T = putBack (shut Γ.T lent) hd (backBs (fbk hd Γ.T.length) (vbk Γ.T hd) 0 Γ'.T) := by
          simp [Cx.put, Cx.shut, shut_len]
        split at h
        · split at h
          · cases h
          · rename_i r' fr hf
            split at h
            · rename_i hsc
              simp only [Bool.and_eq_true] at hsc
              rw [scalar_frz _ hsc.1] at hf
              cases hf
              cases h
              exact ⟨_, rfl, back_open hi hn hlt hout hfr hsc.2, scalar_rep _ _ hsc.1 hrv⟩
            · cases h
              obtain ⟨S, _⟩ := hput2
              have S3 := step_shut S.inv (fr.map (fbk hd Γ.T.length))
              refine ⟨_, by rw [← hT2]; rfl, S.trans S3, ?_⟩
              refine frz_back (vb := vbk Γ.T hd) hfr.inv hrv hf (fun g h => h) ?_
              intro i k hk
              have hlen : (Γ.shut lent).T.length = Γ.T.length := shut_len _ _
              have := put_get (v := vbk Γ.T hd) (okf := Γ'.ok) hfr.inv (step_shut hi lent).inv hn (fun b hb => by rw [hlen]; exact hlt b hb) hk
              rw [hlen] at this
              exact this
        · cases h
          exact ⟨_, hT2, hput2.1, hput2.2 r1 v hrv⟩
    · cases h
end
end Go.Im

namespace Go.Im
open Go
set_option linter.unusedVariables false
set_option linter.unusedSimpArgs false
set_option linter.unnecessarySimpa false
set_option linter.unusedSectionVars false
section
variable {P : Program} {H : Hint} {Γ : Cx} {w : World} {s : St} {a : Act} {ch : List (Nat × Bool)} {o : Oper} {r : IV × List Blk × Kd} {call : CallF} {ops : List Oper}

theorem wp_of_does {rd : Option Nat} {n : Nat} {next : Act → World → Prop} {Q : Exit → Act → World → Prop} (hnd : ∀ c, o.op ≠ .defer c) (h : Does P o a w Γ r) (k : ∀ v w' Γ', Γ'.T = r.2.1 → Step Γ w Γ' w' → Rep Γ' w' r.1 v → next (a.put o.dst v) w') : o.wpIn (FW rd) n P a w next Q := by
  obtain ⟨m, v, w', Γ', h1, h2, h3, h4, h5⟩ := h
  unfold Oper.wpIn
  refine ⟨fun _ _ => trivial, ?_⟩
  rw [Oper.semAt_eq _ _ _ hnd, h1]
  rcases h2 with rfl | ⟨rfl, rfl⟩
  · exact k v w' Γ' h3 h4 h5
  · exact k undef w' Γ' h3 h4 h5

theorem aop_ok {K : KC} {rd : Option Nat} {n : Nat} (hcall : CallsOK K P H call) (hG : K.G Γ w) (hat : At H Γ w s a ch) (hgd : ∀ c x y, o.op = .pick c x y → GdFor ops s.tm c) (h : aop P H call ops ch o s = some r) {next : Act → World → Prop} {Q : Exit → Act → World → Prop}
    (k : ∀ v w' Γ', Γ'.T = r.2.1 → Step Γ w Γ' w' → Rep Γ' w' r.1 v → next (a.put o.dst v) w') : o.wpIn (FW rd) n P a w next Q := by
  unfold aop at h
  split at h
  case h_1 ho => exact wp_of_does (by simp [ho]) (does_move hat (.inl ho) h) k
  case h_2 ho => exact wp_of_does (by simp [ho]) (does_move hat (.inr ho) h) k
  case h_3 ho => exact wp_of_does (by simp [ho]) (does_pick hat (hgd _ _ _ ho) ho h) k
  case h_4 ho => exact wp_of_does (by simp [ho]) (does_un hat ho h) k
  case h_5 ho => exact wp_of_does (by simp [ho]) (does_bin hat ho h) k
  case h_6 ho => exact wp_of_does (by simp [ho]) (does_conv hat ho h) k
  case h_7 ho => exact wp_of_does (by simp [ho]) (does_alloc hat ho h) k
  case h_8 ho => exact wp_of_does (by simp [ho]) (does_box hat ho h) k
  case h_9 ho => exact wp_of_does (by simp [ho]) (does_load hat ho h) k
  case h_10 ho => exact wp_of_does (by simp [ho]) (does_store hat ho h) k
  case h_11 ho => exact wp_of_does (by simp [ho]) (does_fieldAddr hat ho h) k
  case h_12 ho => exact wp_of_does (by simp [ho]) (does_field hat ho h) k
  case h_13 ho => exact wp_of_does (by simp [ho]) (does_indexAddr hat ho h) k
  case h_14 ho => exact wp_of_does (by simp [ho]) (does_index hat ho h) k
  case h_15 ho => exact wp_of_does (by simp [ho]) (does_slice hat ho h) k
  case h_16 ho => exact wp_of_does (by simp [ho]) (does_make hat ho h) k
  case h_17 ho => exact wp_of_does (by simp [ho]) (does_buildSlice hat ho h) k
  case h_18 ho => exact wp_of_does (by simp [ho]) (does_build hat ho h) k
  case h_19 ho => exact wp_of_does (by simp [ho]) (does_extract hat ho h) k
  case h_20 ho => exact wp_of_does (by simp [ho]) (does_func hat ho h) k
  case h_21 ho => exact wp_of_does (by simp [ho]) (does_nil hat ho h) k
  case h_22 c ho =>
    unfold oCall at h
    split at h
    · rename_i vs hvs
      split at h
      · rename_i b hc
        exact wp_of_does (by simp [ho]) (does_builtin hat ho hc hvs h) k
      · rename_i f hc
        unfold oCallV at h
        have he : ∀ cs : List Value, c.args.map a.eval ++ cs.toArray = (c.args.toList.map a.eval ++ cs).toArray := by
          intro cs
          apply Array.ext'
          simp
        split at h
        · rename_i g cap hf
          split at h
          · cases h
          rename_i hgy
          have hv := ev_rep hat hf
          have ha := evs_rep hat _ _ hvs
          simp only [Rep] at hv
          obtain ⟨cs, hv, hcs⟩ := hv
          rw [← hat.T] at h
          have hall := repL_append ha hcs
          have h' : doCall H (fun f as T => match Nat.beq f YID with | true => none | false => call f as T) Γ.T g (vs ++ cap) = some r := by
            unfold doCall at h ⊢
            simp only [hgy]
            exact h
          obtain ⟨⟨fn, h1, h2, h3⟩, h4⟩ := do_call hcall.fn hat.inv hat.gl h' hall
          obtain ⟨c0, hb⟩ := Option.isSome_iff_exists.1 h3
          have hrun : (execOp a.eval o).run P w = .ok (.enter g (c.args.toList.map a.eval ++ cs).toArray) w := by
            have : (callFunc g (c.args.toList.map a.eval ++ cs).toArray).run P w = .ok (.enter g (c.args.toList.map a.eval ++ cs).toArray) w := by
              simp [callFunc, h1, h2, hb]
            unfold execOp
            simp only [ho, resolve, hc, Deferred.ofValue, hv, Sem.run_bind, Sem.run_pure, Result.andThen_ok, invoke, Array.empty_append, he]
            exact this
          unfold Oper.wpIn
          refine ⟨fun _ _ => trivial, ?_⟩
          rw [Oper.semAt_eq _ _ _ (by simp [ho]), hrun, Oper.uponIn_enter]
          refine ⟨fun hd => by simp [FW] at hd, callsIn_fw.2 (Calls.mono h4 ?_)⟩
          rintro e w' ⟨v, Γ', rfl, k1, k2, k3⟩
          exact k v w' Γ' k1 k2 k3
        · rename_i b hf
          split at h
          · rename_i v T hy
            cases h
            have hv := ev_rep hat hf
            have ha := evs_rep hat _ _ hvs
            obtain ⟨b', xs, e1, ⟨j, hj⟩, hh⟩ := hcall.y _ _ _ _ hy
            cases e1
            simp only [Rep, RefY] at hv
            obtain ⟨l, hl, hv⟩ := hv.2.2 j (by rw [hat.T]; exact hj)
            obtain ⟨f1, tmps, asg, bod, hrun, hround⟩ := hh Γ w l _ hat.inv hat.T hat.gl hG hl ha
            have hrun' : (execOp a.eval o).run P w = .ok (.round l f1 tmps asg bod) w := by
              unfold execOp
              have e2 : c.args.map a.eval = (c.args.toList.map a.eval).toArray := by
                apply Array.ext'
                simp
              simp only [ho, resolve, hc, Deferred.ofValue, hv, Sem.run_bind, Sem.run_pure, Result.andThen_ok, invoke, Array.empty_append, e2, Array.append_empty]
              exact hrun
            unfold Oper.wpIn
            refine ⟨fun _ _ => trivial, ?_⟩
            rw [Oper.semAt_eq _ _ _ (by simp [ho]), hrun', Oper.uponIn_round]
            refine ⟨fun hd => by simp [FW] at hd, RoundIn.mono (hround _) ?_⟩
            rintro e w' ⟨v1, Γ', rfl, k1, k2, k3⟩
            exact k v1 w' Γ' k1 k2 k3
          · cases h
        · cases h
      · cases h
    · cases h
  case h_23 => cases h
end
end Go.Im

namespace Go.Im
open Go
set_option linter.unusedVariables false
set_option linter.unusedSimpArgs false
set_option linter.unnecessarySimpa false
set_option linter.unusedSectionVars false

/-- What a guard's slot holds. -/
def slotv (ops : List Oper) (tm : List IV) (j : Nat) : Option IV := ((ops[j]?).bind (·.dst)).bind (tm[·]?)

/-- An operation that guards another. -/
def Guards (ops : List Oper) (j : Nat) : Prop := ∃ (k : Nat) (o : Oper) (w : Bool), ops[k]? = some o ∧ o.guard = some (j, w)

structure RInv (ops : List Oper) (i : Nat) (tm : List IV) : Prop where
  gd : ∀ (t j : Nat) (w c : Bool) (x : IV), tm[t]? = some (.gd j w c x) → j < i ∧ Guards ops j ∧ condOf w (slotv ops tm j) = some c
  up : ∀ (j : Nat) (o : Oper) (j' : Nat) (w' u : Bool), j < i → ops[j]? = some o → o.guard = some (j', w') → Guards ops j → condOf u (slotv ops tm j) = some true → condOf w' (slotv ops tm j') = some true

theorem lone_iff {d j : Nat} : ∀ (l : List Oper) (i : Nat), loneB d j l i = true → ∀ (k : Nat) (o : Oper), l[k]? = some o → o.dst = some d → i + k = j
  | [], i, _, k, o, h, _ => by simp at h
  | o0 :: l, i, hl, 0, o, h, hd => by
    simp only [loneB, Bool.and_eq_true, Bool.or_eq_true] at hl
    simp at h
    subst h
    rcases hl.1 with h1 | h1
    · have := Nat.eq_of_beq_eq_true h1
      omega
    · rw [hd] at h1
      simp at h1
  | o0 :: l, i, hl, k + 1, o, h, hd => by
    simp only [loneB, Bool.and_eq_true] at hl
    have := lone_iff l (i + 1) hl.2 k o (by simpa using h) hd
    omega

theorem guardsGo_iff {ops : List Oper} : ∀ (l : List Oper) (i : Nat), guardsGo ops l i = true → ∀ (k : Nat) (o : Oper) (j : Nat) (w : Bool), l[k]? = some o → o.guard = some (j, w) → j < i + k ∧ ∃ oj d, ops[j]? = some oj ∧ oj.dst = some d ∧ loneB d j ops 0 = true
  | [], i, _, k, o, j, w, h, _ => by simp at h
  | o0 :: l, i, hg, 0, o, j, w, h, hd => by
    simp only [guardsGo, Bool.and_eq_true] at hg
    simp at h
    subst h
    have h1 := hg.1
    rw [hd] at h1
    simp only [Bool.and_eq_true] at h1
    obtain ⟨h1, h2⟩ := h1
    refine ⟨by have := Nat.blt_eq ▸ h1; omega, ?_⟩
    rw [nth?_eq] at h2
    split at h2
    · cases h2
    · rename_i d hd2
      obtain ⟨oj, h3, h4⟩ := Option.bind_eq_some_iff.1 hd2
      exact ⟨oj, d, h3, h4, h2⟩
  | o0 :: l, i, hg, k + 1, o, j, w, h, hd => by
    simp only [guardsGo, Bool.and_eq_true] at hg
    obtain ⟨h1, h2⟩ := guardsGo_iff l (i + 1) hg.2 k o j w (by simpa using h) hd
    exact ⟨by omega, h2⟩

/-- What 'guardsOK' says. -/
theorem guards_iff {ops : List Oper} (h : guardsOK ops = true) {k : Nat} {o : Oper} {j : Nat} {w : Bool} (hk : ops[k]? = some o) (hg : o.guard = some (j, w)) :
    j < k ∧ ∃ oj d, ops[j]? = some oj ∧ oj.dst = some d ∧ ∀ (m : Nat) (om : Oper), ops[m]? = some om → om.dst = some d → m = j := by
  obtain ⟨h1, oj, d, h2, h3, h4⟩ := guardsGo_iff ops 0 h k o j w hk hg
  refine ⟨by omega, oj, d, h2, h3, fun m om hm hd => ?_⟩
  have := lone_iff ops 0 h4 m om hm hd
  omega

/-- Another operation's slot isn't touched. -/
theorem slot_stays {ops : List Oper} (h : guardsOK ops = true) {tm : List IV} {i : Nat} {o : Oper} (hi : ops[i]? = some o) {x : IV} {j : Nat} (hj : Guards ops j) (hne : j ≠ i) : slotv ops (putTm tm o.dst x) j = slotv ops tm j := by
  obtain ⟨k, ok, w, h1, h2⟩ := hj
  obtain ⟨_, oj, d, h3, h4, h5⟩ := guards_iff h h1 h2
  unfold slotv
  simp only [h3, Option.bind_some, h4]
  cases hd : o.dst with
  | none => rfl
  | some e =>
    simp only [putTm]
    rw [List.getElem?_set_ne]
    intro he
    subst he
    exact hne (h5 i o hi hd).symm

theorem putTm_get {tm : List IV} {d : Option Tmp} {x y : IV} {t : Nat} (h : (putTm tm d x)[t]? = some y) : tm[t]? = some y ∨ y = x := by
  cases d with
  | none => exact .inl h
  | some d =>
    simp only [putTm] at h
    by_cases e : d = t
    · subst e
      by_cases hl : d < tm.length
      · rw [List.getElem?_set_self hl] at h
        exact .inr (by simpa using h.symm)
      · rw [List.getElem?_eq_none (by simpa using hl)] at h
        cases h
    · rw [List.getElem?_set_ne e] at h
      exact .inl h

/-- The invariant, on to the next operation. -/
theorem RInv.next {ops : List Oper} {i : Nat} {tm : List IV} {o : Oper} {x : IV} (hg : guardsOK ops = true) (hr : RInv ops i tm) (hi : ops[i]? = some o)
    (hx : ∀ j w c y, x = .gd j w c y → o.guard = some (j, w) ∧ condOf w (slotv ops tm j) = some c)
    (hu : ∀ j w u, o.guard = some (j, w) → condOf u (some x) = some true → condOf w (slotv ops tm j) = some true) : RInv ops (i + 1) (putTm tm o.dst x) := by
  refine ⟨fun t j w c y h => ?_, fun j o' j' w' u hj ho hgd hG hc => ?_⟩
  · rcases putTm_get h with h | h
    · obtain ⟨h1, h2, h3⟩ := hr.gd t j w c y h
      exact ⟨by omega, h2, by rw [slot_stays hg hi h2 (by omega)]; exact h3⟩
    · obtain ⟨h1, h2⟩ := hx j w c y h.symm
      have hG : Guards ops j := ⟨i, o, w, hi, h1⟩
      have hlt := (guards_iff hg hi h1).1
      exact ⟨by omega, hG, by rw [slot_stays hg hi hG (by omega)]; exact h2⟩
  · have hlt := (guards_iff hg ho hgd).1
    have hG' : Guards ops j' := ⟨j, o', w', ho, hgd⟩
    rw [slot_stays hg hi hG' (by omega)]
    by_cases hji : j = i
    · subst hji
      rw [hi] at ho
      cases ho
      refine hu j' w' u hgd ?_
      obtain ⟨k, ok, w0, h1, h2⟩ := hG
      obtain ⟨_, oj, d, h3, h4, _⟩ := guards_iff hg h1 h2
      rw [hi] at h3
      cases h3
      unfold slotv at hc
      simp only [hi, Option.bind_some, h4, putTm] at hc
      by_cases hl : d < tm.length
      · rwa [List.getElem?_set_self hl] at hc
      · rw [List.getElem?_eq_none (by simpa using hl)] at hc
        simp [condOf] at hc
    · rw [slot_stays hg hi hG hji] at hc
      exact hr.up j o' j' w' u (by omega) ho hgd hG hc

theorem RInv.gdOK {ops : List Oper} {i : Nat} {tm : List IV} (hr : RInv ops i tm) : GdOK ops tm := by
  intro t j w c x h
  obtain ⟨_, _, h3⟩ := hr.gd t j w c x h
  unfold slotv at h3
  cases ho : ops[j]? with
  | none => simp [ho, condOf] at h3
  | some o =>
    cases hd : o.dst with
    | none => simp [ho, hd, condOf] at h3
    | some d =>
      simp only [ho, hd, Option.bind_some] at h3
      cases hy : tm[d]? with
      | none => simp [hy, condOf] at h3
      | some y => exact ⟨o, d, y, rfl, hd, hy, by rw [← hy]; exact h3⟩

theorem chain_ok {ops : List Oper} {i : Nat} {tm : List IV} (hg : guardsOK ops = true) (hr : RInv ops i tm) : ∀ (n k : Nat) (o : Oper) (j : Nat) (w : Bool), k ≤ i → ops[k]? = some o → o.guard = some (j, w) → condOf w (slotv ops tm j) = some true → ChOK tm (chainOf ops n k)
  | 0, k, o, j, w, _, _, _, _ => ChOK.nil tm
  | n + 1, k, o, j, w, hk, ho, hgd, hc => by
    have hlt := (guards_iff hg ho hgd).1
    have hG : Guards ops j := ⟨k, o, w, ho, hgd⟩
    intro t j2 w2 c x ht hm
    simp only [chainOf, nth?_eq, ho, Option.bind_some, hgd] at hm
    rcases List.mem_cons.1 hm with e | hm
    · cases e
      obtain ⟨_, _, h3⟩ := hr.gd t j w c x ht
      rw [hc] at h3
      simpa using h3.symm
    · obtain ⟨oj, d, h3, h4, _⟩ := (guards_iff hg ho hgd).2
      cases hgj : oj.guard with
      | none =>
        cases n with
        | zero => simp [chainOf] at hm
        | succ n => simp [chainOf, nth?_eq, h3, hgj] at hm
      | some q =>
        obtain ⟨j', w'⟩ := q
        exact chain_ok hg hr n j oj j' w' (by omega) h3 hgj (hr.up j oj j' w' w (by omega) h3 hgj hG hc) t j2 w2 c x ht hm

/-- The calls that are put off: none, but those that a loop over a function leaves. -/
def DfOK (n0 : Nat) (Γ : Cx) (w : World) (ds : List Deferred) : Prop :=
  ∃ Ds : List Nat, ds = Ds.map (fun D => { target := .collected D, args := #[] }) ∧ Ds.Nodup ∧ ∀ D ∈ Ds, n0 ≤ D ∧ w.heap[D]? = some (Obj.deferred (some [])) ∧ ¬ Γ.ok D
theorem DfOK.nil (n0 : Nat) (Γ : Cx) (w : World) : DfOK n0 Γ w [] := ⟨[], rfl, List.nodup_nil, fun _ h => by cases h⟩
theorem own_obj {Γ : Cx} {w : World} (hi : Inv Γ w) {g : Nat} (h : Γ.own g) : (∃ arr ty, w.heap[g]? = some (Obj.cells arr ty (0, 0))) ∨ ∃ r, w.heap[g]? = some (Obj.loop r) := by
  obtain ⟨b, k, h1, h2, h3⟩ := h
  cases k with
  | dead => simp [Blk.own] at h2
  | var fz cs =>
    obtain ⟨g', arr, ty, k1, k2, _⟩ := hi.var b fz cs h1
    rw [h3] at k1
    cases k1
    exact .inl ⟨_, _, k2⟩
  | row ver fz e l =>
    rcases hi.row b ver fz e l h1 with ⟨k1, _⟩ | ⟨g', arr, ty, k1, k2, _⟩
    · rw [h3] at k1; cases k1
    · rw [h3] at k1
      cases k1
      exact .inl ⟨_, _, k2⟩
  | lp j =>
    obtain ⟨g', r, k1, k2, _⟩ := hi.lp b j h1
    rw [h3] at k1
    cases k1
    exact .inr ⟨_, k2⟩
theorem DfOK.step {n0 : Nat} {Γ Γ' : Cx} {w w' : World} {ds : List Deferred} (h : DfOK n0 Γ w ds) (hi : Inv Γ w) (hs : Step Γ w Γ' w') : DfOK n0 Γ' w' ds := by
  obtain ⟨Ds, h1, h2, h3⟩ := h
  refine ⟨Ds, h1, h2, fun D hD => ?_⟩
  obtain ⟨h4, h5, h6⟩ := h3 D hD
  have hno : ¬ Γ.own D := by
    intro ho
    rcases own_obj hi ho with ⟨_, _, e⟩ | ⟨_, e⟩ <;> (rw [h5] at e; cases e)
  have hlt := (Array.getElem?_eq_some_iff.1 h5).1
  refine ⟨h4, (hs.frm.heap D hlt hno).trans h5, fun ho => ?_⟩
  rcases hs.okp D ho with h | h | h
  · exact h6 h
  · exact hno h
  · omega

structure Sat (K : KC) (H : Hint) (Γ : Cx) (w : World) (s : St) (a : Act) : Prop where
  inv : Inv Γ w
  T : Γ.T = s.bx
  tm : TmRep Γ w s.tm a.tmps
  gl : GlOK H Γ w
  df : DfOK K.n0 Γ w a.defers
  gd : K.G Γ w

theorem cond_wanted {K : KC} {H : Hint} {Γ : Cx} {w : World} {s : St} {a : Act} {ops : Array Oper} (h : Sat K H Γ w s a) {o : Oper} {j : Nat} {want c : Bool} (hg : o.guard = some (j, want)) (hc : condOf want (slotv ops.toList s.tm j) = some c) :
    Region.wanted o (yielded ops a.tmps) = c := by
  unfold Region.wanted
  rw [hg]
  simp only
  unfold slotv at hc
  unfold yielded
  have e : ops.toList[j]? = ops[j]? := by simp
  rw [e] at hc
  cases ho : ops[j]? with
  | none => simp [ho, condOf] at hc
  | some oj =>
    cases hd : oj.dst with
    | none => simp [ho, hd, condOf] at hc
    | some d =>
      simp only [ho, hd, Option.bind_some] at hc ⊢
      cases hy : s.tm[d]? with
      | none => simp [hy, condOf] at hc
      | some y =>
        have hr := h.tm.2 d y hy
        have hlt : d < a.tmps.size := Nat.lt_of_lt_of_le (List.getElem?_eq_some_iff.1 hy).1 h.tm.1
        rw [Array.getElem?_eq_getElem hlt]
        have hgD : a.tmps.getD d undef = a.tmps[d] := by simp [Array.getD, hlt]
        rw [hgD] at hr
        rw [hy] at hc
        generalize a.tmps[d] = v at hr
        cases y with
        | bool b =>
          simp only [Rep] at hr
          subst hr
          simp only [condOf, Option.some.injEq] at hc
          subst hc
          cases b <;> cases want <;> rfl
        | gd j1 w1 c1 x =>
          simp only [Rep] at hr
          cases c1 with
          | false =>
            have := hr.2 rfl
            subst this
            cases x <;> simp [condOf] at hc <;> subst hc <;> rfl
          | true =>
            have hx := hr.1 rfl
            cases x with
            | bool b =>
              simp only [Rep] at hx
              subst hx
              simp only [condOf, Bool.true_and, Option.some.injEq] at hc
              subst hc
              cases b <;> cases want <;> rfl
            | _ => simp [condOf] at hc
        | tup l =>
          cases l with
          | nil =>
            simp only [Rep, RepL] at hr
            obtain ⟨vs, rfl, rfl⟩ := hr
            simp only [condOf, Option.some.injEq] at hc
            subst hc
            rfl
          | cons => simp [condOf] at hc
        | _ => simp [condOf] at hc

theorem Sat.at {K : KC} {H : Hint} {Γ : Cx} {w : World} {s : St} {a : Act} {ch : List (Nat × Bool)} (h : Sat K H Γ w s a) (hc : ChOK s.tm ch) : At H Γ w s a ch := ⟨h.inv, h.T, h.tm, hc, h.gl⟩

theorem Sat.put {K : KC} {H : Hint} {Γ Γ' : Cx} {w w' : World} {s : St} {a : Act} (h : Sat K H Γ w s a) (hs : Step Γ w Γ' w') {T : List Blk} (hT : Γ'.T = T) (d : Option Tmp) {x : IV} {v : Value} (hx : Rep Γ' w' x v) : Sat K H Γ' w' { tm := putTm s.tm d x, bx := T } (a.put d v) := by
  refine ⟨hs.inv, hT, TmRep.put (h.tm.ext hs.ext) d hx, h.gl.ext hs.ext, ?_, K.step _ _ _ _ h.inv h.gd hs⟩
  cases d <;> exact h.df.step h.inv hs
end Go.Im

namespace Go.Im
open Go
set_option linter.unusedVariables false
set_option linter.unusedSimpArgs false
set_option linter.unnecessarySimpa false
set_option linter.unusedSectionVars false

def RdOK (T : List Blk) (r : IV × List Blk × Kd) : Prop := ∀ fp, r.2.2 = .rd fp → r.2.1 = T

theorem rdOK_rdv {T : List Blk} {fp : List Nat} {x : Option IV} {r : IV × List Blk × Kd} (h : rdv T fp x = some r) : RdOK T r := by
  obtain ⟨y, _, rfl⟩ := rdv_some h
  exact fun _ _ => rfl
theorem rdOK_ef {T T' : List Blk} {v : IV} {wr : List Nat} {r : IV × List Blk × Kd} (h : some (v, T', Kd.ef wr) = some r) : RdOK T r := by
  cases h
  intro fp h
  cases h

section
variable {P : Program} {H : Hint} {s : St} {ch : List (Nat × Bool)} {o : Oper} {r : IV × List Blk × Kd} {call : CallF} {ops : List Oper}

theorem rdOK_moved {T : List Blk} {d : Nat} {x : IV} (h : amoved T d x = some r) : RdOK T r := by
  unfold amoved at h
  repeat' split at h
  all_goals first | exact rdOK_rdv h | cases h

theorem rdOK_doCall {T : List Blk} {f : FuncId} {as : List IV} (h : doCall H call T f as = some r) : RdOK T r := by
  unfold doCall at h
  repeat' split at h
  all_goals first | exact rdOK_ef h | (cases h; done) | (cases h; intro _ _; rfl)

theorem aop_rd (h : aop P H call ops ch o s = some r) : RdOK s.bx r := by
  unfold aop at h
  split at h
  case h_1 => exact rdOK_rdv h
  case h_2 => exact rdOK_rdv h
  case h_3 => unfold oPick at h; repeat' split at h
              all_goals first | exact rdOK_rdv h | cases h
  case h_4 => exact rdOK_rdv h
  case h_5 => unfold oBin at h; split at h
              · exact rdOK_rdv h
              · cases h
  case h_6 =>
    obtain ⟨y, _, h⟩ := Option.bind_eq_some_iff.1 h
    unfold aconv at h
    repeat' split at h
    all_goals first | exact rdOK_rdv h | exact rdOK_ef h | cases h
  case h_7 => unfold oAlloc at h; split at h
              · exact rdOK_ef h
              · cases h
  case h_8 => unfold oBox at h; repeat' split at h
              all_goals first | exact rdOK_ef h | cases h
  case h_9 =>
    obtain ⟨y, _, h⟩ := Option.bind_eq_some_iff.1 h
    unfold aload at h
    repeat' split at h
    all_goals first | exact rdOK_rdv h | cases h
  case h_10 =>
    unfold oStore at h
    split at h
    · unfold astore at h
      repeat' split at h
      all_goals first | exact rdOK_ef h | cases h
    · cases h
  case h_11 =>
    obtain ⟨y, _, h⟩ := Option.bind_eq_some_iff.1 h
    unfold afieldAddr at h
    repeat' split at h
    all_goals first | exact rdOK_moved h | cases h
  case h_12 => exact rdOK_rdv h
  case h_13 =>
    unfold oIndexAddr at h
    split at h
    · unfold aindexAddr at h
      repeat' split at h
      all_goals first | exact rdOK_rdv h | exact rdOK_moved h | cases h
    · cases h
  case h_14 => unfold oIndex at h; split at h
               · exact rdOK_rdv h
               · cases h
  case h_15 =>
    unfold oSlice at h
    split at h
    · unfold aslice at h
      repeat' split at h
      all_goals first | exact rdOK_rdv h | cases h
    · cases h
  case h_16 =>
    obtain ⟨y, _, h⟩ := Option.bind_eq_some_iff.1 h
    unfold amake at h
    repeat' split at h
    all_goals first | exact rdOK_ef h | cases h
  case h_17 =>
    obtain ⟨y, _, h⟩ := Option.bind_eq_some_iff.1 h
    unfold abuildSlice at h
    repeat' split at h
    all_goals first | exact rdOK_ef h | cases h
  case h_18 => exact rdOK_rdv h
  case h_19 => exact rdOK_rdv h
  case h_20 => unfold oFunc at h; split at h
               · exact rdOK_rdv h
               · cases h
  case h_21 =>
    obtain ⟨y, _, h⟩ := Option.bind_eq_some_iff.1 h
    unfold anil at h
    split at h
    all_goals first | exact rdOK_moved h | exact rdOK_rdv h | cases h
  case h_22 =>
    unfold oCall at h
    split at h
    · split at h
      · unfold abuiltin at h
        repeat' split at h
        all_goals first
          | exact rdOK_rdv h
          | (unfold aappend at h; repeat' split at h
             all_goals first | exact rdOK_ef h | cases h)
          | cases h
      · unfold oCallV at h
        split at h
        · split at h
          · cases h
          · exact rdOK_doCall h
        · split at h
          · exact rdOK_ef h
          · cases h
        · cases h
      · cases h
    · cases h
  case h_23 => cases h
end

theorem aopG_some {P : Program} {H : Hint} {s : St} {ch : List (Nat × Bool)} {o : Oper} {r : IV × List Blk × Kd} {call : CallF} {ops : List Oper} (h : aopG P H call ops ch o s = some r) : aop P H call ops ch o s = some r ∧ ∀ j w c y, r.1 ≠ .gd j w c y := by
  unfold aopG at h
  split at h
  · rename_i v T k hv
    split at h
    · cases h
    · rename_i hn
      cases h
      exact ⟨hv, fun j w c y e => hn j w c y e⟩
  · cases h

section
variable {K : KC} {rd : Option Nat} {n : Nat} {P : Program} {H : Hint} {call : CallF} {ops : Array Oper} {Q : Exit → Act → World → Prop}

theorem rep_gd {Γ : Cx} {w : World} {j : Nat} {want c : Bool} {x : IV} {v : Value} (h1 : c = true → Rep Γ w x v) (h2 : c = false → v = undef) : Rep Γ w (.gd j want c x) v := by
  simp only [Rep]
  exact ⟨h1, h2⟩

theorem aops_ok (hcall : CallsOK K P H call) (hg : guardsOK ops.toList = true) : ∀ (rest : List Oper) (i : Nat) (s : St) (g : Log) (s' : St) (g' : Log) (Γ : Cx) (w : World) (a : Act),
    ops.toList.drop i = rest → aops P H call ops.toList rest i s g = some (s', g') → Sat K H Γ w s a → RInv ops.toList i s.tm →
    (∀ (a' : Act) (w' : World) (Γ' : Cx), Step Γ w Γ' w' → Sat K H Γ' w' s' a' → Q .normal a' w') → wpOpsIn (FW rd) n P ops Q (List.range' i rest.length) a w
  | [], i, s, g, s', g', Γ, w, a, hd, h, hs, hr, k => by
    simp only [aops, Option.some.injEq, Prod.mk.injEq] at h
    obtain ⟨rfl, _⟩ := h
    exact k a w Γ (Step.refl hs.inv) hs
  | o :: rest, i, s, g, s', g', Γ, w, a, hd, h, hs, hr, k => by
    have hi : ops.toList[i]? = some o := by
      have : (ops.toList.drop i)[0]? = some o := by rw [hd]; rfl
      rwa [List.getElem?_drop, Nat.add_zero] at this
    have hi' : ops[i]? = some o := by simpa using hi
    have hdr : ops.toList.drop (i + 1) = rest := by
      have : (ops.toList.drop i).drop 1 = rest := by rw [hd]; rfl
      rwa [List.drop_drop] at this
    have go : ∀ (x : IV) (T : List Blk) (g2 : Log), aops P H call ops.toList rest (i + 1) { tm := putTm s.tm o.dst x, bx := T } g2 = some (s', g') → RInv ops.toList (i + 1) (putTm s.tm o.dst x) →
        ∀ (v : Value) (w1 : World) (Γ1 : Cx), Γ1.T = T → Step Γ w Γ1 w1 → Rep Γ1 w1 x v → wpOpsIn (FW rd) n P ops Q (List.range' (i + 1) rest.length) (a.put o.dst v) w1 := by
      intro x T g2 h2 hr2 v w1 Γ1 hT hst hx
      exact aops_ok hcall hg rest (i + 1) _ g2 s' g' Γ1 w1 _ hdr h2 (hs.put hst hT o.dst hx) hr2 fun a' w' Γ' hs2 hsat => k a' w' Γ' (hst.trans hs2) hsat
    simp only [List.length_cons, List.range'_succ, wpOpsIn, hi']
    simp only [aops] at h
    cases hgd : o.guard with
    | none =>
      have hw : Region.wanted o (yielded ops a.tmps) = true := by unfold Region.wanted; rw [hgd]
      rw [if_pos hw]
      simp only [hgd] at h
      split at h
      · rename_i x T kd hop
        rw [putK_eq] at h
        obtain ⟨hop, hng⟩ := aopG_some hop
        exact (aop_ok hcall hs.gd (hs.at (ChOK.nil _)) (fun c _ _ _ => hr.gdOK.for c) hop fun v w1 Γ1 hT hst hx => go x T _ h
          (hr.next hg hi (fun j w c y e => absurd e (hng j w c y)) (fun j w u h => by rw [hgd] at h; cases h)) v w1 Γ1 hT hst hx)
      · cases h
    | some q =>
      obtain ⟨j, want⟩ := q
      simp only [hgd, nth?_eq] at h
      have hsl : ((ops.toList[j]?).bind (·.dst)).bind (fun x => s.tm[x]?) = slotv ops.toList s.tm j := rfl
      rw [hsl] at h
      split at h
      · cases h
      · rename_i c hc
        have hw := cond_wanted hs hgd hc
        have hu0 : ∀ (x : IV), (∀ u, condOf u (some x) = some true → c = true) → ∀ j1 w1 u, o.guard = some (j1, w1) → condOf u (some x) = some true → condOf w1 (slotv ops.toList s.tm j1) = some true := by
          intro x hx j1 w1 u h1 h2
          rw [hgd] at h1
          cases h1
          rw [hc, hx u h2]
        have skip : ∀ g2, aops P H call ops.toList rest (i + 1) { tm := putTm s.tm o.dst unit, bx := s.bx } g2 = some (s', g') → c = false → wpOpsIn (FW rd) n P ops Q (List.range' (i + 1) rest.length) (a.put o.dst undef) w := by
          intro g2 h2 hcf
          refine go unit s.bx g2 h2 (hr.next hg hi (fun j w c y e => by cases e) (hu0 unit ?_)) undef w Γ hs.T (Step.refl hs.inv) (rep_unit Γ w)
          intro u h
          simp [unit, condOf] at h
        have hch : c = true → ChOK s.tm (chainOf ops.toList 12 i) := fun hct => chain_ok hg hr 12 i o j want (Nat.le_refl _) hi hgd (by rw [hc, hct])
        split at h
        · split at h
          · rename_i v T fp hop
            rw [putK_eq] at h
            obtain ⟨hop, hng⟩ := aopG_some hop
            have hT0 : T = s.bx := aop_rd hop fp rfl
            have hr2 : RInv ops.toList (i + 1) (putTm s.tm o.dst (.gd j want c v)) := by
              refine hr.next hg hi ?_ (hu0 _ ?_)
              · intro j1 w1 c1 y e
                cases e
                exact ⟨hgd, hc⟩
              · intro u h
                cases c with
                | true => rfl
                | false => cases v <;> simp [condOf] at h
            cases c with
            | true =>
              rw [if_pos hw]
              exact (aop_ok hcall hs.gd (hs.at (hch rfl)) (fun c _ _ _ => hr.gdOK.for c) hop fun v1 w1 Γ1 hT hst hx => go _ s.bx _ h hr2 v1 w1 Γ1 (hT.trans hT0) hst (rep_gd (fun _ => hx) (fun e => by cases e)))
            | false =>
              rw [if_neg (by rw [hw]; simp)]
              exact ⟨fun _ _ => trivial, go _ s.bx _ h hr2 undef w Γ hs.T (Step.refl hs.inv) (rep_gd (fun e => by cases e) (fun _ => rfl))⟩
          · cases c with
            | true => cases h
            | false =>
              rw [if_neg (by rw [hw]; simp)]
              rw [putK_eq] at h
              exact ⟨fun _ _ => trivial, skip _ h rfl⟩
        · cases c with
          | true =>
            rw [if_pos hw]
            dsimp only at h
            split at h
            · rename_i v T kd hop
              rw [putK_eq] at h
              obtain ⟨hop, hng⟩ := aopG_some hop
              exact (aop_ok hcall hs.gd (hs.at (hch rfl)) (fun c _ _ _ => hr.gdOK.for c) hop fun v1 w1 Γ1 hT hst hx => go v T _ h
                (hr.next hg hi (fun j w c y e => absurd e (hng j w c y)) (hu0 v fun _ _ => rfl)) v1 w1 Γ1 hT hst hx)
            · cases h
          | false =>
            rw [if_neg (by rw [hw]; simp)]
            dsimp only at h
            rw [putK_eq] at h
            exact ⟨fun _ _ => trivial, skip _ h rfl⟩

theorem dropGd_sat {Γ : Cx} {w : World} {s : St} {a : Act} (h : Sat K H Γ w s a) : Sat K H Γ w { tm := s.tm.map dropGd, bx := s.bx } a := by
  refine ⟨h.inv, h.T, ⟨by simpa using h.tm.1, fun t x hx => ?_⟩, h.gl, h.df, h.gd⟩
  simp only [List.getElem?_map] at hx
  obtain ⟨y, hy, rfl⟩ := Option.map_eq_some_iff.1 hx
  have := h.tm.2 t y hy
  cases y <;> first | exact this | trivial

theorem NoGd.rinv {tm : List IV} (h : NoGd tm) (ops : List Oper) : RInv ops 0 tm :=
  ⟨fun t j w c x hx => absurd hx (h t j w c x), fun j _ _ _ _ hj => absurd hj (Nat.not_lt_zero _)⟩
end
end Go.Im
