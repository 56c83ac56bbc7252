/- Which event Told is given which event Sent, in plain words. It bears no condition. -/
import Derived.Test.YtgbddcdpbgaojaaIm4
namespace Go.Proofs.Ytgbddcdpbgaojaa
open Go Go.Im
set_option linter.unusedVariables false
set_option linter.unusedSimpArgs false

structure Ev where
  (kind host peer at_ : Int) (bytes : List UInt8)
abbrev Key := Int × Int × List UInt8
def Ev.s (e : Ev) : Key := (e.host, e.peer, e.bytes)
def Ev.t (e : Ev) : Key := (e.peer, e.host, e.bytes)
abbrev Wt := Key → List Int
def upd (W : Wt) (k : Key) (v : List Int) : Wt := fun x => if x = k then v else W x
theorem upd_same (W : Wt) (k : Key) (v : List Int) : upd W k v k = v := by simp [upd]
theorem upd_other (W : Wt) {k x : Key} (v : List Int) (h : x ≠ k) : upd W k v x = W x := by simp [upd, h]
structure MS where
  (W : Wt) (out : List (Int × Int))
def mStep (i : Nat) (s : MS) (e : Ev) : MS :=
  if e.kind = 1 then ⟨upd s.W e.s (s.W e.s ++ [(i : Int)]), s.out⟩
  else if e.kind = 3 then (if s.W e.t = [] then ⟨s.W, s.out ++ [((i : Int), -1)]⟩ else ⟨upd s.W e.t (s.W e.t).tail, s.out ++ [((i : Int), (s.W e.t).headD 0)]⟩)
  else s
def ifold {X V : Type} (f : Nat → X → V → X) : Nat → X → List V → X
  | _, x, [] => x
  | i, x, v :: vs => ifold f (i + 1) (f i x v) vs
theorem ifold_snoc {X V : Type} (f : Nat → X → V → X) : ∀ (l : List V) (i : Nat) (x : X) (v : V), ifold f i x (l ++ [v]) = f (i + l.length) (ifold f i x l) v
  | [], i, x, v => rfl
  | u :: l, i, x, v => by
    show ifold f (i + 1) (f i x u) (l ++ [v]) = _
    rw [ifold_snoc f l, List.length_cons, show i + 1 + l.length = i + (l.length + 1) by omega]
    rfl
theorem snoc_ind {V : Type} {p : List V → Prop} (h0 : p []) (h1 : ∀ l v, p l → p (l ++ [v])) (l : List V) : p l := by
  rw [← List.reverse_reverse l]
  induction l.reverse with
  | nil => exact h0
  | cons v l ih => rw [List.reverse_cons]; exact h1 _ _ ih
def ms (l : List Ev) : MS := ifold mStep 0 ⟨fun _ => [], []⟩ l
def mat (l : List Ev) : List (Int × Int) := (ms l).out
theorem ms_snoc (l : List Ev) (e : Ev) : ms (l ++ [e]) = mStep l.length (ms l) e := by
  unfold ms
  rw [ifold_snoc, Nat.zero_add]

/-! ### The document's answer -/
def alike (a b : Ev) : Bool := a.kind == 1 && b.kind == 3 && decide (a.s = b.t)
def free (pre : List Ev) (used : List Int) (key : Key) (k : Nat) : Bool := match pre[k]? with
  | some a => a.kind == 1 && decide (a.s = key) && !(used.contains (k : Int))
  | none => false
def sel (pre : List Ev) (used : List Int) (key : Key) : List Nat := (List.range pre.length).filter (free pre used key)
def fnd (pre : List Ev) (used : List Int) (key : Key) : Int := match (List.range pre.length).find? (free pre used key) with
  | some k => (k : Int)
  | none => -1
def rStep (l : List Ev) (i : Nat) (out : List (Int × Int)) (e : Ev) : List (Int × Int) :=
  if e.kind = 3 then out ++ [((i : Int), fnd (l.take i) (out.map (·.2)) e.t)] else out
def rmat (l : List Ev) : List (Int × Int) := ifold (rStep l) 0 [] l
def Und (n : Nat) (used : List Int) : Prop := ∀ x ∈ used, x < (n : Int)
theorem free_snoc (pre : List Ev) (e : Ev) (used : List Int) (key : Key) {k : Nat} (h : k < pre.length) : free (pre ++ [e]) used key k = free pre used key k := by
  unfold free
  rw [List.getElem?_append_left h]
theorem sel_snoc (pre : List Ev) (e : Ev) (used : List Int) (key : Key) (hu : Und pre.length used) : sel (pre ++ [e]) used key = sel pre used key ++ (if e.kind = 1 ∧ e.s = key then [pre.length] else []) := by
  unfold sel
  rw [List.length_append, List.length_cons, List.length_nil, Nat.zero_add, List.range_succ, List.filter_append]
  congr 1
  · exact List.filter_congr fun k hk => free_snoc pre e used key (List.mem_range.1 hk)
  · have hn : used.contains (pre.length : Int) = false := by
      cases h : used.contains (pre.length : Int) with
      | false => rfl
      | true =>
        have := hu _ (List.contains_iff_mem.1 h)
        omega
    have : free (pre ++ [e]) used key pre.length = decide (e.kind = 1 ∧ e.s = key) := by
      unfold free
      rw [List.getElem?_append_right (Nat.le_refl _), Nat.sub_self]
      simp only [List.getElem?_cons_zero, hn, Bool.not_false, Bool.and_true]
      by_cases h1 : e.kind = 1 <;> by_cases h2 : e.s = key <;> simp [h1, h2]
    rw [List.filter_cons, this]
    by_cases h : e.kind = 1 ∧ e.s = key
    · rw [if_pos h, decide_eq_true h]; rfl
    · rw [if_neg h, decide_eq_false h]; rfl
theorem free_used (pre : List Ev) (used : List Int) (key : Key) (x : Int) (k : Nat) : free pre (used ++ [x]) key k = (free pre used key k && !(decide ((k : Int) = x))) := by
  unfold free
  cases pre[k]? with
  | none => rfl
  | some a =>
    simp only
    have : (used ++ [x]).contains (k : Int) = (used.contains (k : Int) || decide ((k : Int) = x)) := by
      rw [Bool.eq_iff_iff]
      simp [List.contains_iff_mem]
    rw [this]
    cases used.contains (k : Int) <;> cases decide ((k : Int) = x) <;> simp
theorem sel_other (pre : List Ev) (used : List Int) (key key' : Key) (h : Nat) (hf : free pre used key h = true) (hne : key' ≠ key) : sel pre (used ++ [(h : Int)]) key' = sel pre used key' := by
  unfold sel
  refine List.filter_congr fun k hk => ?_
  rw [free_used]
  by_cases e : k = h
  · subst e
    have : free pre used key' k = false := by
      unfold free at hf ⊢
      cases hp : pre[k]? with
      | none => rfl
      | some a =>
        rw [hp] at hf
        simp only [Bool.and_eq_true, decide_eq_true_eq] at hf
        simp only
        have : a.s ≠ key' := fun e => hne (by rw [← e, hf.1.2])
        rw [decide_eq_false this]
        simp
    rw [this]; rfl
  · have : decide ((k : Int) = (h : Int)) = false := decide_eq_false (by omega)
    rw [this]; simp
theorem sel_same (pre : List Ev) (used : List Int) (key : Key) (h : Nat) (t : List Nat) (hs : sel pre used key = h :: t) : sel pre (used ++ [(h : Int)]) key = t := by
  have e : sel pre (used ++ [(h : Int)]) key = (sel pre used key).filter fun (k : Nat) => !(decide ((k : Int) = (h : Int))) := by
    unfold sel
    rw [List.filter_filter]
    refine List.filter_congr fun k hk => ?_
    rw [free_used, Bool.and_comm]
  rw [e, hs]
  have hn : (sel pre used key).Nodup := List.Pairwise.filter _ List.nodup_range
  rw [hs, List.nodup_cons] at hn
  rw [List.filter_cons]
  simp only [decide_true, Bool.not_true]
  rw [if_neg (by simp)]
  refine List.filter_eq_self.2 fun k hk => ?_
  have : k ≠ h := fun e => hn.1 (e ▸ hk)
  have : ¬ (k : Int) = (h : Int) := by omega
  rw [decide_eq_false this]; rfl
theorem sel_skip (pre : List Ev) (used : List Int) (key : Key) : sel pre (used ++ [-1]) key = sel pre used key := by
  unfold sel
  refine List.filter_congr fun k hk => ?_
  rw [free_used]
  have : ¬ (k : Int) = -1 := by omega
  rw [decide_eq_false this]; simp
theorem sel_mem {pre : List Ev} {used : List Int} {key : Key} {k : Nat} (h : k ∈ sel pre used key) : k < pre.length ∧ ∃ a, pre[k]? = some a ∧ a.kind = 1 ∧ a.s = key ∧ (k : Int) ∉ used := by
  unfold sel at h
  obtain ⟨h1, h2⟩ := List.mem_filter.1 h
  refine ⟨List.mem_range.1 h1, ?_⟩
  unfold free at h2
  cases hp : pre[k]? with
  | none => rw [hp] at h2; cases h2
  | some a =>
    rw [hp] at h2
    simp only [Bool.and_eq_true, decide_eq_true_eq, beq_iff_eq, Bool.not_eq_true', List.contains_eq_mem, decide_eq_false_iff_not] at h2
    exact ⟨a, rfl, h2.1.1, h2.1.2, h2.2⟩
theorem fnd_head (pre : List Ev) (used : List Int) (key : Key) : fnd pre used key = match sel pre used key with
    | h :: _ => (h : Int)
    | [] => -1 := by
  unfold fnd sel
  rw [← List.head?_filter]
  cases (List.range pre.length).filter (free pre used key) <;> rfl

/-! ### The two are one -/
structure Good (l : List Ev) (s : MS) : Prop where
  wait : ∀ key, s.W key = (sel l (s.out.map (·.2)) key).map fun (k : Nat) => (k : Int)
  below : Und l.length (s.out.map (·.2))
  each : ∀ m ∈ s.out, 0 ≤ m.1 ∧ m.1 < (l.length : Int) ∧ m.2 < m.1 ∧ -1 ≤ m.2 ∧ (∃ b, l[m.1.toNat]? = some b ∧ b.kind = 3 ∧ (0 ≤ m.2 → ∃ a, l[m.2.toNat]? = some a ∧ alike a b = true))
  apart : s.out.Pairwise fun a b => 0 ≤ b.2 → a.2 ≠ b.2
theorem get_snoc {l : List Ev} {e b : Ev} {k : Nat} (h : l[k]? = some b) : (l ++ [e])[k]? = some b := by
  rw [List.getElem?_append_left (List.getElem?_eq_some_iff.1 h).1]
  exact h
theorem each_snoc {l : List Ev} {e : Ev} {m : Int × Int} (h : 0 ≤ m.1 ∧ m.1 < (l.length : Int) ∧ m.2 < m.1 ∧ -1 ≤ m.2 ∧ (∃ b, l[m.1.toNat]? = some b ∧ b.kind = 3 ∧ (0 ≤ m.2 → ∃ a, l[m.2.toNat]? = some a ∧ alike a b = true))) :
    0 ≤ m.1 ∧ m.1 < ((l ++ [e]).length : Int) ∧ m.2 < m.1 ∧ -1 ≤ m.2 ∧ (∃ b, (l ++ [e])[m.1.toNat]? = some b ∧ b.kind = 3 ∧ (0 ≤ m.2 → ∃ a, (l ++ [e])[m.2.toNat]? = some a ∧ alike a b = true)) := by
  obtain ⟨h1, h2, h3, h4, b, h5, h6, h7⟩ := h
  refine ⟨h1, by simp; omega, h3, h4, b, get_snoc h5, h6, fun h => ?_⟩
  obtain ⟨a, h8, h9⟩ := h7 h
  exact ⟨a, get_snoc h8, h9⟩
theorem good_step {l : List Ev} {s : MS} (h : Good l s) (e : Ev) : Good (l ++ [e]) (mStep l.length s e) ∧ (mStep l.length s e).out = if e.kind = 3 then s.out ++ [((l.length : Int), fnd l (s.out.map (·.2)) e.t)] else s.out := by
  have hb' : ∀ used, Und l.length used → Und (l ++ [e]).length used := fun used hu x hx => by have := hu x hx; simp; omega
  unfold mStep
  by_cases k1 : e.kind = 1
  · rw [if_pos k1, if_neg (by omega)]
    refine ⟨⟨fun key => ?_, hb' _ h.below, fun m hm => each_snoc (h.each m hm), h.apart⟩, rfl⟩
    simp only
    rw [sel_snoc l e _ key h.below]
    by_cases hk : e.s = key
    · subst hk
      rw [upd_same, if_pos ⟨k1, rfl⟩, List.map_append, ← h.wait]
      rfl
    · rw [upd_other _ _ (fun e' => hk e'.symm), if_neg (fun h => hk h.2), List.append_nil, h.wait]
  · rw [if_neg k1]
    by_cases k3 : e.kind = 3
    · rw [if_pos k3, if_pos k3, fnd_head]
      have hw := h.wait e.t
      cases hs : sel l (s.out.map (·.2)) e.t with
      | nil =>
        rw [hs, List.map_nil] at hw
        rw [if_pos hw]
        refine ⟨⟨fun key => ?_, ?_, ?_, ?_⟩, rfl⟩
        · simp only [List.map_append, List.map_cons, List.map_nil]
          rw [sel_snoc l e _ key (by intro x hx; rcases List.mem_append.1 hx with h' | h'; exact h.below x h'; simp at h'; omega), if_neg (fun h => by omega), List.append_nil, sel_skip]
          exact h.wait key
        · simp only [List.map_append, List.map_cons, List.map_nil]
          intro x hx
          rcases List.mem_append.1 hx with h' | h'
          · have := h.below x h'; simp; omega
          · simp at h'; simp; omega
        · intro m hm
          rcases List.mem_append.1 hm with h' | h'
          · exact each_snoc (h.each m h')
          · simp only [List.mem_singleton] at h'
            subst h'
            refine ⟨by simp, by simp; omega, by simp only []; omega, by simp, e, by simp, k3, fun h => by simp at h⟩
        · rw [List.pairwise_append]
          refine ⟨h.apart, by simp, fun a ha b hb h0 => ?_⟩
          simp only [List.mem_singleton] at hb
          subst hb
          simp at h0
      | cons x t =>
        rw [hs] at hw
        have hx : x ∈ sel l (s.out.map (·.2)) e.t := by rw [hs]; exact List.mem_cons_self ..
        obtain ⟨hlt, a, ha, ak, as_, anot⟩ := sel_mem hx
        have hfree : free l (s.out.map (·.2)) e.t x = true := by
          unfold sel at hx
          exact (List.mem_filter.1 hx).2
        rw [if_neg (by rw [hw]; simp), hw]
        simp only [List.map_cons, List.tail_cons, List.headD_cons]
        refine ⟨⟨fun key => ?_, ?_, ?_, ?_⟩, by first | rfl | trivial⟩
        · simp only [List.map_append, List.map_cons, List.map_nil]
          rw [sel_snoc l e _ key (by intro y hy; rcases List.mem_append.1 hy with h' | h'; exact h.below y h'; simp at h'; omega), if_neg (fun h => by omega), List.append_nil]
          by_cases hk : key = e.t
          · subst hk
            rw [upd_same, sel_same l _ _ x t hs]
          · rw [upd_other _ _ hk, sel_other l _ e.t key x hfree hk]
            exact h.wait key
        · simp only [List.map_append, List.map_cons, List.map_nil]
          intro y hy
          rcases List.mem_append.1 hy with h' | h'
          · have := h.below y h'; simp; omega
          · simp at h'; simp; omega
        · intro m hm
          rcases List.mem_append.1 hm with h' | h'
          · exact each_snoc (h.each m h')
          · simp only [List.mem_singleton] at h'
            subst h'
            refine ⟨by simp, by simp; omega, by simp only []; omega, by simp only []; omega, e, by simp, k3, fun _ => ⟨a, ?_, ?_⟩⟩
            · exact get_snoc ha
            · unfold alike
              rw [ak, k3, decide_eq_true as_]; rfl
        · rw [List.pairwise_append]
          refine ⟨h.apart, by simp, fun a' ha' b hb _ => ?_⟩
          simp only [List.mem_singleton] at hb
          subst hb
          intro e'
          simp only at e'
          exact anot (List.mem_map.2 ⟨a', ha', e'⟩)
    · rw [if_neg k3, if_neg k3]
      refine ⟨⟨fun key => ?_, hb' _ h.below, fun m hm => each_snoc (h.each m hm), h.apart⟩, rfl⟩
      rw [sel_snoc l e _ key h.below, if_neg (fun h => k1 h.1), List.append_nil, h.wait]
theorem good_ms : ∀ l : List Ev, Good l (ms l) := snoc_ind ⟨fun key => rfl, (fun x hx => by cases hx), (fun m hm => by cases hm), List.Pairwise.nil⟩ fun l e ih => by
  rw [ms_snoc]
  exact (good_step ih e).1
theorem ifold_take (l : List Ev) : ∀ (pre : List Ev), pre <+: l → ifold (rStep l) 0 [] pre = (ms pre).out := snoc_ind (fun _ => rfl) fun pre e ih hp => by
  have hp' : pre <+: l := (List.prefix_append pre [e]).trans hp
  rw [ifold_snoc, Nat.zero_add, ih hp', ms_snoc, (good_step (good_ms pre) e).2]
  unfold rStep
  have : l.take pre.length = pre := (List.prefix_iff_eq_take.1 hp').symm
  rw [this]
theorem rmat_eq (l : List Ev) : rmat l = mat l := ifold_take l l (List.prefix_refl l)
end Go.Proofs.Ytgbddcdpbgaojaa
