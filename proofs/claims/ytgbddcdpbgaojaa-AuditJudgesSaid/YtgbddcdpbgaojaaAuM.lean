/- Which event Told is given which event Sent, in plain words. It bears no condition. -/
import Derived.Test.YtgbddcdpbgaojaaIm4
import Derived.Maps.OwnRows
import Derived.ArgAppend
import Derived.Deep.AppendLies
import Derived.WalkKit
import Derived.OwnWalk
import Derived.Deep.RegionLaw
import Derived.Test.YtgbddcdpbgaojaaProg
import Derived.Maps.Keyed
import Derived.DeepKeys4
import Derived.Maps.OwnOps
import Derived.Carry
import Derived.StillTailTactics
namespace Go.Proofs.Ytgbddcdpbgaojaa
open Go Go.Im
set_option linter.unusedVariables false
set_option linter.unusedSimpArgs false

structure Ev where
  (kind host peer at_ : Int) (bytes : List UInt8)
abbrev Key := Int × Int × List UInt8
def Ev.s (e : Ev) : Key := (e.host, e.peer, e.bytes)
def Ev.t (e : Ev) : Key := (e.peer, e.host, e.bytes)
abbrev Wt := Key → List Int
def upd (W : Wt) (k : Key) (v : List Int) : Wt := fun x => if x = k then v else W x
theorem upd_same (W : Wt) (k : Key) (v : List Int) : upd W k v k = v := by simp [upd]
theorem upd_other (W : Wt) {k x : Key} (v : List Int) (h : x ≠ k) : upd W k v x = W x := by simp [upd, h]
structure MS where
  (W : Wt) (out : List (Int × Int))
def mStep (i : Nat) (s : MS) (e : Ev) : MS :=
  if e.kind = 1 then ⟨upd s.W e.s (s.W e.s ++ [(i : Int)]), s.out⟩
  else if e.kind = 3 then (if s.W e.t = [] then ⟨s.W, s.out ++ [((i : Int), -1)]⟩ else ⟨upd s.W e.t (s.W e.t).tail, s.out ++ [((i : Int), (s.W e.t).headD 0)]⟩)
  else s
def ifold {X V : Type} (f : Nat → X → V → X) : Nat → X → List V → X
  | _, x, [] => x
  | i, x, v :: vs => ifold f (i + 1) (f i x v) vs
theorem ifold_snoc {X V : Type} (f : Nat → X → V → X) : ∀ (l : List V) (i : Nat) (x : X) (v : V), ifold f i x (l ++ [v]) = f (i + l.length) (ifold f i x l) v
  | [], i, x, v => rfl
  | u :: l, i, x, v => by
    show ifold f (i + 1) (f i x u) (l ++ [v]) = _
    rw [ifold_snoc f l, List.length_cons, show i + 1 + l.length = i + (l.length + 1) by omega]
    rfl
theorem snoc_ind {V : Type} {p : List V → Prop} (h0 : p []) (h1 : ∀ l v, p l → p (l ++ [v])) (l : List V) : p l := by
  rw [← List.reverse_reverse l]
  induction l.reverse with
  | nil => exact h0
  | cons v l ih => rw [List.reverse_cons]; exact h1 _ _ ih
def ms (l : List Ev) : MS := ifold mStep 0 ⟨fun _ => [], []⟩ l
def mat (l : List Ev) : List (Int × Int) := (ms l).out
theorem ms_snoc (l : List Ev) (e : Ev) : ms (l ++ [e]) = mStep l.length (ms l) e := by
  unfold ms
  rw [ifold_snoc, Nat.zero_add]

/-! ### The document's answer -/
def alike (a b : Ev) : Bool := a.kind == 1 && b.kind == 3 && decide (a.s = b.t)
def free (pre : List Ev) (used : List Int) (key : Key) (k : Nat) : Bool := match pre[k]? with
  | some a => a.kind == 1 && decide (a.s = key) && !(used.contains (k : Int))
  | none => false
def sel (pre : List Ev) (used : List Int) (key : Key) : List Nat := (List.range pre.length).filter (free pre used key)
def fnd (pre : List Ev) (used : List Int) (key : Key) : Int := match (List.range pre.length).find? (free pre used key) with
  | some k => (k : Int)
  | none => -1
def rStep (l : List Ev) (i : Nat) (out : List (Int × Int)) (e : Ev) : List (Int × Int) :=
  if e.kind = 3 then out ++ [((i : Int), fnd (l.take i) (out.map (·.2)) e.t)] else out
def rmat (l : List Ev) : List (Int × Int) := ifold (rStep l) 0 [] l
def Und (n : Nat) (used : List Int) : Prop := ∀ x ∈ used, x < (n : Int)
theorem free_snoc (pre : List Ev) (e : Ev) (used : List Int) (key : Key) {k : Nat} (h : k < pre.length) : free (pre ++ [e]) used key k = free pre used key k := by
  unfold free
  rw [List.getElem?_append_left h]
theorem sel_snoc (pre : List Ev) (e : Ev) (used : List Int) (key : Key) (hu : Und pre.length used) : sel (pre ++ [e]) used key = sel pre used key ++ (if e.kind = 1 ∧ e.s = key then [pre.length] else []) := by
  unfold sel
  rw [List.length_append, List.length_cons, List.length_nil, Nat.zero_add, List.range_succ, List.filter_append]
  congr 1
  · exact List.filter_congr fun k hk => free_snoc pre e used key (List.mem_range.1 hk)
  · have hn : used.contains (pre.length : Int) = false := by
      cases h : used.contains (pre.length : Int) with
      | false => rfl
      | true =>
        have := hu _ (List.contains_iff_mem.1 h)
        omega
    have : free (pre ++ [e]) used key pre.length = decide (e.kind = 1 ∧ e.s = key) := by
      unfold free
      rw [List.getElem?_append_right (Nat.le_refl _), Nat.sub_self]
      simp only [List.getElem?_cons_zero, hn, Bool.not_false, Bool.and_true]
      by_cases h1 : e.kind = 1 <;> by_cases h2 : e.s = key <;> simp [h1, h2]
    rw [List.filter_cons, this]
    by_cases h : e.kind = 1 ∧ e.s = key
    · rw [if_pos h, decide_eq_true h]; rfl
    · rw [if_neg h, decide_eq_false h]; rfl
theorem free_used (pre : List Ev) (used : List Int) (key : Key) (x : Int) (k : Nat) : free pre (used ++ [x]) key k = (free pre used key k && !(decide ((k : Int) = x))) := by
  unfold free
  cases pre[k]? with
  | none => rfl
  | some a =>
    simp only
    have : (used ++ [x]).contains (k : Int) = (used.contains (k : Int) || decide ((k : Int) = x)) := by
      rw [Bool.eq_iff_iff]
      simp [List.contains_iff_mem]
    rw [this]
    cases used.contains (k : Int) <;> cases decide ((k : Int) = x) <;> simp
theorem sel_other (pre : List Ev) (used : List Int) (key key' : Key) (h : Nat) (hf : free pre used key h = true) (hne : key' ≠ key) : sel pre (used ++ [(h : Int)]) key' = sel pre used key' := by
  unfold sel
  refine List.filter_congr fun k hk => ?_
  rw [free_used]
  by_cases e : k = h
  · subst e
    have : free pre used key' k = false := by
      unfold free at hf ⊢
      cases hp : pre[k]? with
      | none => rfl
      | some a =>
        rw [hp] at hf
        simp only [Bool.and_eq_true, decide_eq_true_eq] at hf
        simp only
        have : a.s ≠ key' := fun e => hne (by rw [← e, hf.1.2])
        rw [decide_eq_false this]
        simp
    rw [this]; rfl
  · have : decide ((k : Int) = (h : Int)) = false := decide_eq_false (by omega)
    rw [this]; simp
theorem sel_same (pre : List Ev) (used : List Int) (key : Key) (h : Nat) (t : List Nat) (hs : sel pre used key = h :: t) : sel pre (used ++ [(h : Int)]) key = t := by
  have e : sel pre (used ++ [(h : Int)]) key = (sel pre used key).filter fun (k : Nat) => !(decide ((k : Int) = (h : Int))) := by
    unfold sel
    rw [List.filter_filter]
    refine List.filter_congr fun k hk => ?_
    rw [free_used, Bool.and_comm]
  rw [e, hs]
  have hn : (sel pre used key).Nodup := List.Pairwise.filter _ List.nodup_range
  rw [hs, List.nodup_cons] at hn
  rw [List.filter_cons]
  simp only [decide_true, Bool.not_true]
  rw [if_neg (by simp)]
  refine List.filter_eq_self.2 fun k hk => ?_
  have : k ≠ h := fun e => hn.1 (e ▸ hk)
  have : ¬ (k : Int) = (h : Int) := by omega
  rw [decide_eq_false this]; rfl
theorem sel_skip (pre : List Ev) (used : List Int) (key : Key) : sel pre (used ++ [-1]) key = sel pre used key := by
  unfold sel
  refine List.filter_congr fun k hk => ?_
  rw [free_used]
  have : ¬ (k : Int) = -1 := by omega
  rw [decide_eq_false this]; simp
theorem sel_mem {pre : List Ev} {used : List Int} {key : Key} {k : Nat} (h : k ∈ sel pre used key) : k < pre.length ∧ ∃ a, pre[k]? = some a ∧ a.kind = 1 ∧ a.s = key ∧ (k : Int) ∉ used := by
  unfold sel at h
  obtain ⟨h1, h2⟩ := List.mem_filter.1 h
  refine ⟨List.mem_range.1 h1, ?_⟩
  unfold free at h2
  cases hp : pre[k]? with
  | none => rw [hp] at h2; cases h2
  | some a =>
    rw [hp] at h2
    simp only [Bool.and_eq_true, decide_eq_true_eq, beq_iff_eq, Bool.not_eq_true', List.contains_eq_mem, decide_eq_false_iff_not] at h2
    exact ⟨a, rfl, h2.1.1, h2.1.2, h2.2⟩
theorem fnd_head (pre : List Ev) (used : List Int) (key : Key) : fnd pre used key = match sel pre used key with
    | h :: _ => (h : Int)
    | [] => -1 := by
  unfold fnd sel
  rw [← List.head?_filter]
  cases (List.range pre.length).filter (free pre used key) <;> rfl

/-! ### The two are one -/
structure Good (l : List Ev) (s : MS) : Prop where
  wait : ∀ key, s.W key = (sel l (s.out.map (·.2)) key).map fun (k : Nat) => (k : Int)
  below : Und l.length (s.out.map (·.2))
  each : ∀ m ∈ s.out, 0 ≤ m.1 ∧ m.1 < (l.length : Int) ∧ m.2 < m.1 ∧ -1 ≤ m.2 ∧ (∃ b, l[m.1.toNat]? = some b ∧ b.kind = 3 ∧ (0 ≤ m.2 → ∃ a, l[m.2.toNat]? = some a ∧ alike a b = true))
  apart : s.out.Pairwise fun a b => 0 ≤ b.2 → a.2 ≠ b.2
theorem get_snoc {l : List Ev} {e b : Ev} {k : Nat} (h : l[k]? = some b) : (l ++ [e])[k]? = some b := by
  rw [List.getElem?_append_left (List.getElem?_eq_some_iff.1 h).1]
  exact h
theorem each_snoc {l : List Ev} {e : Ev} {m : Int × Int} (h : 0 ≤ m.1 ∧ m.1 < (l.length : Int) ∧ m.2 < m.1 ∧ -1 ≤ m.2 ∧ (∃ b, l[m.1.toNat]? = some b ∧ b.kind = 3 ∧ (0 ≤ m.2 → ∃ a, l[m.2.toNat]? = some a ∧ alike a b = true))) :
    0 ≤ m.1 ∧ m.1 < ((l ++ [e]).length : Int) ∧ m.2 < m.1 ∧ -1 ≤ m.2 ∧ (∃ b, (l ++ [e])[m.1.toNat]? = some b ∧ b.kind = 3 ∧ (0 ≤ m.2 → ∃ a, (l ++ [e])[m.2.toNat]? = some a ∧ alike a b = true)) := by
  obtain ⟨h1, h2, h3, h4, b, h5, h6, h7⟩ := h
  refine ⟨h1, by simp; omega, h3, h4, b, get_snoc h5, h6, fun h => ?_⟩
  obtain ⟨a, h8, h9⟩ := h7 h
  exact ⟨a, get_snoc h8, h9⟩
theorem good_step {l : List Ev} {s : MS} (h : Good l s) (e : Ev) : Good (l ++ [e]) (mStep l.length s e) ∧ (mStep l.length s e).out = if e.kind = 3 then s.out ++ [((l.length : Int), fnd l (s.out.map (·.2)) e.t)] else s.out := by
  have hb' : ∀ used, Und l.length used → Und (l ++ [e]).length used := fun used hu x hx => by have := hu x hx; simp; omega
  unfold mStep
  by_cases k1 : e.kind = 1
  · rw [if_pos k1, if_neg (by omega)]
    refine ⟨⟨fun key => ?_, hb' _ h.below, fun m hm => each_snoc (h.each m hm), h.apart⟩, rfl⟩
    simp only
    rw [sel_snoc l e _ key h.below]
    by_cases hk : e.s = key
    · subst hk
      rw [upd_same, if_pos ⟨k1, rfl⟩, List.map_append, ← h.wait]
      rfl
    · rw [upd_other _ _ (fun e' => hk e'.symm), if_neg (fun h => hk h.2), List.append_nil, h.wait]
  · rw [if_neg k1]
    by_cases k3 : e.kind = 3
    · rw [if_pos k3, if_pos k3, fnd_head]
      have hw := h.wait e.t
      cases hs : sel l (s.out.map (·.2)) e.t with
      | nil =>
        rw [hs, List.map_nil] at hw
        rw [if_pos hw]
        refine ⟨⟨fun key => ?_, ?_, ?_, ?_⟩, rfl⟩
        · simp only [List.map_append, List.map_cons, List.map_nil]
          rw [sel_snoc l e _ key (by intro x hx; rcases List.mem_append.1 hx with h' | h'; exact h.below x h'; simp at h'; omega), if_neg (fun h => by omega), List.append_nil, sel_skip]
          exact h.wait key
        · simp only [List.map_append, List.map_cons, List.map_nil]
          intro x hx
          rcases List.mem_append.1 hx with h' | h'
          · have := h.below x h'; simp; omega
          · simp at h'; simp; omega
        · intro m hm
          rcases List.mem_append.1 hm with h' | h'
          · exact each_snoc (h.each m h')
          · simp only [List.mem_singleton] at h'
            subst h'
            refine ⟨by simp, by simp; omega, by simp only []; omega, by simp, e, by simp, k3, fun h => by simp at h⟩
        · rw [List.pairwise_append]
          refine ⟨h.apart, by simp, fun a ha b hb h0 => ?_⟩
          simp only [List.mem_singleton] at hb
          subst hb
          simp at h0
      | cons x t =>
        rw [hs] at hw
        have hx : x ∈ sel l (s.out.map (·.2)) e.t := by rw [hs]; exact List.mem_cons_self ..
        obtain ⟨hlt, a, ha, ak, as_, anot⟩ := sel_mem hx
        have hfree : free l (s.out.map (·.2)) e.t x = true := by
          unfold sel at hx
          exact (List.mem_filter.1 hx).2
        rw [if_neg (by rw [hw]; simp), hw]
        simp only [List.map_cons, List.tail_cons, List.headD_cons]
        refine ⟨⟨fun key => ?_, ?_, ?_, ?_⟩, by first | rfl | trivial⟩
        · simp only [List.map_append, List.map_cons, List.map_nil]
          rw [sel_snoc l e _ key (by intro y hy; rcases List.mem_append.1 hy with h' | h'; exact h.below y h'; simp at h'; omega), if_neg (fun h => by omega), List.append_nil]
          by_cases hk : key = e.t
          · subst hk
            rw [upd_same, sel_same l _ _ x t hs]
          · rw [upd_other _ _ hk, sel_other l _ e.t key x hfree hk]
            exact h.wait key
        · simp only [List.map_append, List.map_cons, List.map_nil]
          intro y hy
          rcases List.mem_append.1 hy with h' | h'
          · have := h.below y h'; simp; omega
          · simp at h'; simp; omega
        · intro m hm
          rcases List.mem_append.1 hm with h' | h'
          · exact each_snoc (h.each m h')
          · simp only [List.mem_singleton] at h'
            subst h'
            refine ⟨by simp, by simp; omega, by simp only []; omega, by simp only []; omega, e, by simp, k3, fun _ => ⟨a, ?_, ?_⟩⟩
            · exact get_snoc ha
            · unfold alike
              rw [ak, k3, decide_eq_true as_]; rfl
        · rw [List.pairwise_append]
          refine ⟨h.apart, by simp, fun a' ha' b hb _ => ?_⟩
          simp only [List.mem_singleton] at hb
          subst hb
          intro e'
          simp only at e'
          exact anot (List.mem_map.2 ⟨a', ha', e'⟩)
    · rw [if_neg k3, if_neg k3]
      refine ⟨⟨fun key => ?_, hb' _ h.below, fun m hm => each_snoc (h.each m hm), h.apart⟩, rfl⟩
      rw [sel_snoc l e _ key h.below, if_neg (fun h => k1 h.1), List.append_nil, h.wait]
theorem good_ms : ∀ l : List Ev, Good l (ms l) := snoc_ind ⟨fun key => rfl, (fun x hx => by cases hx), (fun m hm => by cases hm), List.Pairwise.nil⟩ fun l e ih => by
  rw [ms_snoc]
  exact (good_step ih e).1
theorem ifold_take (l : List Ev) : ∀ (pre : List Ev), pre <+: l → ifold (rStep l) 0 [] pre = (ms pre).out := snoc_ind (fun _ => rfl) fun pre e ih hp => by
  have hp' : pre <+: l := (List.prefix_append pre [e]).trans hp
  rw [ifold_snoc, Nat.zero_add, ih hp', ms_snoc, (good_step (good_ms pre) e).2]
  unfold rStep
  have : l.take pre.length = pre := (List.prefix_iff_eq_take.1 hp').symm
  rw [this]
theorem rmat_eq (l : List Ev) : rmat l = mat l := ifold_take l l (List.prefix_refl l)
end Go.Proofs.Ytgbddcdpbgaojaa
/- A map of rows of numbers that a call has made, each row its own: what a look-up, an append and a store do. It bears no condition. -/
namespace Go.Proofs.Ytgbddcdpbgaojaa
open Go Go.Maps Go.MapKept
open Go.ChangeMaps (setBlock heap_setBlock_same heap_setBlock_other)
set_option linter.unusedVariables false
set_option linter.unusedSimpArgs false

noncomputable def setV {α : Type} (M : Value → α) (key : Value) (v : α) : Value → α := fun x => @ite α (x = key) (Classical.propDecidable _) v (M x)
theorem setV_same {α : Type} (M : Value → α) (key : Value) (v : α) : setV M key v key = v := if_pos rfl
theorem setV_other {α : Type} (M : Value → α) {key x : Value} (v : α) (h : x ≠ key) : setV M key v x = M x := if_neg h
section
variable {P : Program} {k : TypeId}

/-! ### A map as a function -/
def MapIs (P : Program) (k : TypeId) (w : World) (b n : Nat) (M : Value → Option Value) (st : Option (Value × Nat)) : Prop :=
  ∃ es clock, w.heap[b]? = some (.map es clock) ∧ es.size ≤ n ∧ (∀ x ∈ es.toList, ∃ l, keyOf P k x.key = some l) ∧ (es.toList.map (·.key)).Nodup ∧ (∀ key v, M key = some v ↔ ∃ x ∈ es.toList, x.key = key ∧ x.val = v) ∧
    (∀ x ∈ es.toList, x.born < clock) ∧ (es.toList.map (·.born)).Nodup ∧ ∀ key s, st = some (key, s) → ∃ x ∈ es.toList, x.key = key ∧ x.born = s
theorem MapIs.made (w : World) : MapIs P k (w.alloc (.map #[] 0)) w.heap.size 0 (fun _ => none) none :=
  ⟨#[], 0, (MapKept.heap_alloc w _).1, by simp, by simp, by simp, (fun key v => by simp), by simp, by simp, fun _ _ h => by cases h⟩
theorem MapIs.lt {w : World} {b n : Nat} {M : Value → Option Value} {st : Option (Value × Nat)} (h : MapIs P k w b n M st) : b < w.heap.size := by
  obtain ⟨es, clock, hb, _⟩ := h
  exact (Array.getElem?_eq_some_iff.1 hb).1
theorem MapIs.kept {w w' : World} {b n : Nat} {M : Value → Option Value} {st : Option (Value × Nat)} {row : Option Nat} (h : MapIs P k w b n M st) (hg : w.grownBy w' row) (hne : some b ≠ row) : MapIs P k w' b n M st := by
  have hlt := h.lt
  obtain ⟨es, clock, hb, r⟩ := h
  exact ⟨es, clock, (hg.block b hlt hne).trans hb, r⟩
theorem MapIs.look {w : World} {b n : Nat} {M : Value → Option Value} {t E : TypeId} {st : Option (Value × Nat)} {z key : Value} {kl : Lit} (h : MapIs P k w b n M st) (K : Keyed P k) (ht : P.underlying t = some (.map k E)) (hz : (zeroValue E).run P w = .ok z w) (hkey : keyOf P k key = some kl) :
    (Instr.lookup t (.map (some b)) key false).run P w = .ok ((M key).getD z) w := by
  obtain ⟨es, clock, hb, _, hk, hn, hM, _⟩ := h
  rcases K.find w hkey es.toList hk with ⟨h1, h2⟩ | ⟨j, e0, h1, h2, h3⟩
  · have : M key = none := by
      cases hm : M key with
      | none => rfl
      | some v =>
        obtain ⟨x, hx, e, _⟩ := (hM key v).1 hm
        exact absurd e (h2 x hx)
    rw [this]
    simp [Instr.lookup, run_underlying ht, MapKept.run_getObj_map hb, K.check w _ hkey, h1, hz, Result.andThen]
  · have : M key = some e0.val := (hM key e0.val).2 ⟨e0, List.mem_of_getElem? h2, h3, rfl⟩
    rw [this]
    simp [Instr.lookup, run_underlying ht, MapKept.run_getObj_map hb, K.check w _ hkey, h1, Result.andThen]
/-- What stands in a row of entries. -/
structure Ents (P : Program) (k : TypeId) (l : List MapEntry) (clock : Nat) (M : Value → Option Value) : Prop where
  keys : ∀ x ∈ l, ∃ kl, keyOf P k x.key = some kl
  apart : (l.map (·.key)).Nodup
  val : ∀ key v, M key = some v ↔ ∃ x ∈ l, x.key = key ∧ x.val = v
  born : ∀ x ∈ l, x.born < clock
  once : (l.map (·.born)).Nodup
theorem Ents.push {l : List MapEntry} {clock : Nat} {M : Value → Option Value} (h : Ents P k l clock M) {key val : Value} {kl : Lit} (hkey : keyOf P k key = some kl) (hnew : ∀ x ∈ l, x.key ≠ key) :
    Ents P k (l ++ [⟨key, val, clock⟩]) (clock + 1) (setV M key (some val)) where
  keys x hx := by
    rcases List.mem_append.1 hx with hx | hx
    · exact h.keys x hx
    · rw [List.mem_singleton] at hx; subst hx; exact ⟨_, hkey⟩
  apart := by
    rw [List.map_append, List.nodup_append]
    refine ⟨h.apart, by simp, fun a ha c hc => ?_⟩
    obtain ⟨x, hx, rfl⟩ := List.mem_map.1 ha
    simp only [List.map_cons, List.map_nil, List.mem_singleton] at hc
    rw [hc]
    exact hnew x hx
  val key' v := by
    by_cases e : key' = key
    · subst e
      rw [setV_same]
      constructor
      · intro e; cases e; exact ⟨_, List.mem_append_right _ (List.mem_singleton.2 rfl), rfl, rfl⟩
      · rintro ⟨x, hx, e1, e2⟩
        rcases List.mem_append.1 hx with hx | hx
        · exact absurd e1 (hnew x hx)
        · rw [List.mem_singleton] at hx; subst hx; rw [← e2]
    · rw [setV_other _ _ e, h.val]
      constructor
      · rintro ⟨x, hx, e1⟩; exact ⟨x, List.mem_append_left _ hx, e1⟩
      · rintro ⟨x, hx, e1, e2⟩
        rcases List.mem_append.1 hx with hx | hx
        · exact ⟨x, hx, e1, e2⟩
        · rw [List.mem_singleton] at hx; subst hx; exact absurd e1.symm e
  born x hx := by
    rcases List.mem_append.1 hx with hx | hx
    · have := h.born x hx; omega
    · rw [List.mem_singleton] at hx; subst hx; exact Nat.lt_succ_self _
  once := by
    rw [List.map_append, List.nodup_append]
    refine ⟨h.once, by simp, fun a ha c hc => ?_⟩
    obtain ⟨x, hx, rfl⟩ := List.mem_map.1 ha
    simp only [List.map_cons, List.map_nil, List.mem_singleton] at hc
    have := h.born x hx
    omega
theorem Ents.set {l : List MapEntry} {clock : Nat} {M : Value → Option Value} (h : Ents P k l clock M) {key val : Value} {j : Nat} {e0 : MapEntry} (h2 : l[j]? = some e0) (h3 : e0.key = key) :
    Ents P k (l.set j ⟨key, val, e0.born⟩) clock (setV M key (some val)) := by
  have hjl : j < l.length := (List.getElem?_eq_some_iff.1 h2).1
  have same : ∀ {α : Type} (f : MapEntry → α), f ⟨key, val, e0.born⟩ = f e0 → (l.set j ⟨key, val, e0.born⟩).map f = l.map f := by
    intro α f hf
    rw [List.map_set]
    refine List.ext_getElem? fun i => ?_
    rw [List.getElem?_set]
    by_cases e : j = i
    · subst e
      rw [if_pos rfl, List.getElem?_map, h2]
      simp [hf]
      simpa using hjl
    · rw [if_neg e]
  have who : ∀ x, x ∈ l.set j ⟨key, val, e0.born⟩ ↔ x = ⟨key, val, e0.born⟩ ∨ (x ∈ l ∧ x.key ≠ key) := by
    intro x
    constructor
    · intro hx
      obtain ⟨i, hi, ex⟩ := List.getElem_of_mem hx
      rw [List.getElem_set] at ex
      split at ex
      · exact Or.inl ex.symm
      · rename_i hne
        have hi' : i < l.length := by simpa using hi
        refine Or.inr ⟨ex ▸ List.getElem_mem hi', fun e1 => hne ?_⟩
        have hp := List.pairwise_iff_getElem.1 h.apart
        have ej : (l.map (·.key))[j]'(by simpa using hjl) = key := by
          rw [List.getElem_map]
          have := (List.getElem?_eq_some_iff.1 h2).2
          rw [this, h3]
        have ei : (l.map (·.key))[i]'(by simpa using hi') = key := by rw [List.getElem_map, ex, e1]
        rcases Nat.lt_trichotomy i j with hij | hij | hij
        · exact absurd (ei.trans ej.symm) (hp i j _ _ hij)
        · exact hij.symm
        · exact absurd (ej.trans ei.symm) (hp j i _ _ hij)
    · rintro (rfl | ⟨hx, hne⟩)
      · exact List.mem_set hjl _
      · obtain ⟨i, hi, ex⟩ := List.getElem_of_mem hx
        have : j ≠ i := by
          rintro rfl
          rw [List.getElem?_eq_getElem hi, ex] at h2
          exact hne (by cases h2; exact h3)
        refine List.mem_iff_getElem?.2 ⟨i, ?_⟩
        rw [List.getElem?_set_ne this, List.getElem?_eq_getElem hi, ex]
  have h0 : e0 ∈ l := List.mem_of_getElem? h2
  refine ⟨fun x hx => ?_, by rw [same (·.key) h3.symm]; exact h.apart, fun key' v => ?_, fun x hx => ?_, by rw [same (·.born) rfl]; exact h.once⟩
  · rcases (who x).1 hx with rfl | ⟨hx', _⟩
    · obtain ⟨kl, hk⟩ := h.keys e0 h0
      exact ⟨kl, by rw [← h3]; exact hk⟩
    · exact h.keys x hx'
  · by_cases e : key' = key
    · subst e
      rw [setV_same]
      constructor
      · intro e; cases e; exact ⟨_, (who _).2 (.inl rfl), rfl, rfl⟩
      · rintro ⟨x, hx, e1, e2⟩
        rcases (who x).1 hx with rfl | ⟨_, hne⟩
        · rw [← e2]
        · exact absurd e1 hne
    · rw [setV_other _ _ e, h.val]
      constructor
      · rintro ⟨x, hx, e1, e2⟩; exact ⟨x, (who x).2 (.inr ⟨hx, by rw [e1]; exact e⟩), e1, e2⟩
      · rintro ⟨x, hx, e1, e2⟩
        rcases (who x).1 hx with rfl | ⟨hx', _⟩
        · exact absurd e1.symm e
        · exact ⟨x, hx', e1, e2⟩
  · rcases (who x).1 hx with rfl | ⟨hx', _⟩
    · exact h.born e0 h0
    · exact h.born x hx'
theorem MapIs.ents {w : World} {b n : Nat} {M : Value → Option Value} {st : Option (Value × Nat)} (h : MapIs P k w b n M st) : ∃ es clock, w.heap[b]? = some (.map es clock) ∧ es.size ≤ n ∧ Ents P k es.toList clock M ∧ ∀ key s, st = some (key, s) → ∃ x ∈ es.toList, x.key = key ∧ x.born = s := by
  obtain ⟨es, clock, hb, hs, a, c, d, e, f, g⟩ := h
  exact ⟨es, clock, hb, hs, ⟨a, c, d, e, f⟩, g⟩
theorem MapIs.of {w : World} {b n : Nat} {M : Value → Option Value} {st : Option (Value × Nat)} {es : Array MapEntry} {clock : Nat} (hb : w.heap[b]? = some (.map es clock)) (hs : es.size ≤ n) (h : Ents P k es.toList clock M) (hst : ∀ key s, st = some (key, s) → ∃ x ∈ es.toList, x.key = key ∧ x.born = s) : MapIs P k w b n M st :=
  ⟨es, clock, hb, hs, h.1, h.2, h.3, h.4, h.5, hst⟩
theorem grown_set {w : World} {b : Nat} {es : Array MapEntry} {clock : Nat} (hb : w.heap[b]? = some (.map es clock)) (o : Obj) : w.grownBy (setBlock w b o) (some b) := ⟨rfl, rfl, rfl, by simp [setBlock], fun i _ hi => heap_setBlock_other hb _ (fun e1 => hi (by rw [e1]))⟩
theorem mod_list {es : Array MapEntry} {j : Nat} {e0 : MapEntry} (h2 : es.toList[j]? = some e0) (f : MapEntry → MapEntry) : (es.modify j f).toList = es.toList.set j (f e0) := by
  have hjl : j < es.toList.length := (List.getElem?_eq_some_iff.1 h2).1
  rw [Array.toList_modify]
  refine List.ext_getElem? fun i => ?_
  rw [List.getElem?_modify, List.getElem?_set]
  by_cases e : j = i
  · subst e
    rw [h2]
    simp
    simpa using hjl
  · simp [e]
theorem MapIs.store {w : World} {b n : Nat} {M : Value → Option Value} {st : Option (Value × Nat)} {t E : TypeId} {key val : Value} {kl : Lit} (h : MapIs P k w b n M st) (K : Keyed P k) (ht : P.underlying t = some (.map k E)) (hkey : keyOf P k key = some kl) :
    ∃ w2, (Instr.mapUpdate t (.map (some b)) key val).run P w = .ok () w2 ∧ w.grownBy w2 (some b) ∧ MapIs P k w2 b (n + 1) (setV M key (some val)) none := by
  obtain ⟨es, clock, hb, hs, hE, _⟩ := h.ents
  rcases K.find w hkey es.toList hE.keys with ⟨h1, h2⟩ | ⟨j, e0, h1, h2, h3⟩
  · refine ⟨setBlock w b (.map (es.push ⟨key, val, clock⟩) (clock + 1)), ?_, grown_set hb _, MapIs.of (heap_setBlock_same hb _) (by simp; omega) (by rw [Array.toList_push]; exact hE.push hkey h2) (fun _ _ h => by cases h)⟩
    simp [Instr.mapUpdate, run_underlying ht, MapKept.run_getObj_map hb, K.check w false hkey, h1, MapKept.run_setObj_map _ hb, Result.andThen, setBlock]
  · have hj : es[j]? = some e0 := by simpa using h2
    refine ⟨setBlock w b (.map (es.modify j (fun e' => { e' with key := key, val := val })) clock), ?_, grown_set hb _, MapIs.of (heap_setBlock_same hb _) (by simp; omega) (by rw [mod_list h2]; exact hE.set h2 h3) (fun _ _ h => by cases h)⟩
    simp [Instr.mapUpdate, run_underlying ht, MapKept.run_getObj_map hb, K.check w false hkey, h1, hj, h3, K.stays w hkey, MapKept.run_setObj_map _ hb, Result.andThen, setBlock]
/-- 'm[k] = f(m[k])': its first half. -/
theorem MapIs.enter {w : World} {b n : Nat} {M : Value → Option Value} {st : Option (Value × Nat)} {t E : TypeId} {z key : Value} {kl : Lit} (h : MapIs P k w b n M st) (K : Keyed P k) (ht : P.underlying t = some (.map k E)) (hz : (zeroValue E).run P w = .ok z w) (hkey : keyOf P k key = some kl) :
    ∃ (w2 : World) (s : Nat), (Instr.mapEntry t (.map (some b)) key).run P w = .ok (.tuple #[(M key).getD z, goInt s]) w2 ∧ w.grownBy w2 (some b) ∧ MapIs P k w2 b (n + 1) (setV M key (some ((M key).getD z))) (some (key, s)) := by
  obtain ⟨es, clock, hb, hs, hE, _⟩ := h.ents
  rcases K.find w hkey es.toList hE.keys with ⟨h1, h2⟩ | ⟨j, e0, h1, h2, h3⟩
  · have hm : M key = none := by
      cases hm : M key with
      | none => rfl
      | some v =>
        obtain ⟨x, hx, e, _⟩ := (hE.val key v).1 hm
        exact absurd e (h2 x hx)
    rw [hm]
    refine ⟨setBlock w b (.map (es.push ⟨key, z, clock⟩) (clock + 1)), clock, ?_, grown_set hb _, MapIs.of (heap_setBlock_same hb _) (by simp; omega) (by rw [Array.toList_push]; exact hE.push hkey h2) ?_⟩
    · simp [Instr.mapEntry, run_underlying ht, MapKept.run_getObj_map hb, K.check w false hkey, h1, hz, MapKept.run_setObj_map _ hb, Result.andThen, setBlock]
    · intro key' s h
      cases h
      exact ⟨⟨key, z, clock⟩, by simp, rfl, rfl⟩
  · have hj : es[j]? = some e0 := by simpa using h2
    have hm : M key = some e0.val := (hE.val key e0.val).2 ⟨e0, List.mem_of_getElem? h2, h3, rfl⟩
    rw [hm]
    have e1 : es.toList.set j ⟨key, e0.val, e0.born⟩ = (es.modify j (fun e => { e with key := key })).toList := (mod_list h2 (fun e => { e with key := key })).symm
    refine ⟨setBlock w b (.map (es.modify j (fun e => { e with key := key })) clock), e0.born, ?_, grown_set hb _, MapIs.of (heap_setBlock_same hb _) (by simp; omega) (by rw [← e1]; exact hE.set h2 h3) ?_⟩
    · simp [Instr.mapEntry, run_underlying ht, MapKept.run_getObj_map hb, K.check w false hkey, h1, hj, h3, K.stays w hkey, MapKept.run_setObj_map _ hb, Result.andThen, setBlock]
    · intro key' s h
      cases h
      rw [← e1]
      exact ⟨_, List.mem_set (List.getElem?_eq_some_iff.1 h2).1 _, rfl, rfl⟩
/-- .. its second half. -/
theorem MapIs.put {w : World} {b n : Nat} {M : Value → Option Value} {key val : Value} {s : Nat} {t : TypeId} (h : MapIs P k w b n M (some (key, s))) :
    ∃ w2, (Instr.entryStore t (.map (some b)) (goInt s) val).run P w = .ok () w2 ∧ w.grownBy w2 (some b) ∧ MapIs P k w2 b n (setV M key (some val)) none := by
  obtain ⟨es, clock, hb, hs, hE, hst⟩ := h.ents
  obtain ⟨e0, he0, hk0, hb0⟩ := hst key s rfl
  obtain ⟨j, hj, hje⟩ := List.getElem_of_mem he0
  have h2 : es.toList[j]? = some e0 := by rw [List.getElem?_eq_getElem hj, hje]
  have hidx : es.findIdx? (fun e => ((e.born : Nat) : Int) == ((s : Nat) : Int)) = some j := by
    have : es.findIdx? (fun e => ((e.born : Nat) : Int) == ((s : Nat) : Int)) = es.toList.findIdx? (fun e => ((e.born : Nat) : Int) == ((s : Nat) : Int)) := by cases es; simp
    rw [this, List.findIdx?_eq_some_iff_getElem]
    refine ⟨hj, by simp [hje, hb0], fun i hij => ?_⟩
    have hp := List.pairwise_iff_getElem.1 hE.once i j (by have : i < es.toList.length := (by omega); simpa using this) (by simpa using hj) hij
    simp only [List.getElem_map, hje, hb0] at hp
    simp only [beq_iff_eq]
    omega
  have e1 : es.toList.set j ⟨key, val, e0.born⟩ = (es.modify j (fun e => { e with val := val })).toList := by rw [mod_list h2, ← hk0]
  refine ⟨setBlock w b (.map (es.modify j (fun e => { e with val := val })) clock), ?_, grown_set hb _, MapIs.of (heap_setBlock_same hb _) (by simp; omega) (by rw [← e1]; exact hE.set h2 hk0) (fun _ _ h => by cases h)⟩
  simp [Instr.entryStore, MapKept.run_getObj_map hb, asInt, asIntOf, goInt, hidx, MapKept.run_setObj_map _ hb, Result.andThen, setBlock]

/-! ### Rows of numbers -/
def Qv (w : World) (base : Nat) (e : TypeId) (v : Value) (zs : List Int) : Prop :=
  (v = .slice none 0 0 ∧ zs = []) ∨ ∃ g o c cur, v = .slice (some ⟨g, o, none⟩) zs.length c ∧ base ≤ g ∧ w.heap[g]? = some (.cells cur e (0, 0)) ∧ zs.length ≤ c ∧ c ≤ maxLen ∧ o + c ≤ cur.size ∧ ∀ j (h : j < zs.length), cur[o + j]? = some (.int .i64 zs[j])
theorem Qv.lt {w : World} {base : Nat} {e : TypeId} {v : Value} {zs : List Int} (h : Qv w base e v zs) {g : Nat} (hg : v.ownBlock = some g) : base ≤ g ∧ g < w.heap.size := by
  rcases h with ⟨rfl, _⟩ | ⟨g', o, c, cur, rfl, hb, hh, _⟩
  · cases hg
  · cases hg
    exact ⟨hb, (Array.getElem?_eq_some_iff.1 hh).1⟩
theorem Qv.kept {w w' : World} {base : Nat} {e : TypeId} {v : Value} {zs : List Int} {row : Option Nat} (h : Qv w base e v zs) (hg : w.grownBy w' row) (hne : v.ownBlock = none ∨ v.ownBlock ≠ row) : Qv w' base e v zs := by
  rcases h with h | ⟨g, o, c, cur, rfl, hb, hh, r⟩
  · exact .inl h
  · refine .inr ⟨g, o, c, cur, rfl, hb, (hg.block g (Array.getElem?_eq_some_iff.1 hh).1 ?_).trans hh, r⟩
    rcases hne with h | h
    · cases h
    · exact h

/-! ### The map's rows, each its own -/
abbrev Apt (v : Value) (r : Option Nat) : Prop := v.ownBlock = none ∨ v.ownBlock ≠ r
def QsX (P : Program) (k e : TypeId) (w : World) (base b n : Nat) (W : Value → List Int) (no : Option Nat) (ex : Value → Prop) (r : Option Nat) (st : Option (Value × Nat)) : Prop :=
  ∃ M, MapIs P k w b n M st ∧ b < base ∧ (∀ key, ¬ ex key → (M key = none ∧ W key = []) ∨ ∃ v, M key = some v ∧ Qv w base e v (W key) ∧ Apt v no ∧ Apt v r) ∧
    ∀ k1 k2 v1 v2, ¬ ex k1 → ¬ ex k2 → k1 ≠ k2 → M k1 = some v1 → M k2 = some v2 → Apt v1 v2.ownBlock
abbrev Qs (P : Program) (k e : TypeId) (w : World) (base b n : Nat) (W : Value → List Int) (no : Option Nat) : Prop := QsX P k e w base b n W no (fun _ => False) none none
variable {e : TypeId} {w w' : World} {base b n : Nat} {W : Value → List Int} {no : Option Nat} {ex : Value → Prop} {r : Option Nat} {st : Option (Value × Nat)}
theorem Qs.made (w : World) : Qs P k e (w.alloc (.map #[] 0)) (w.heap.size + 1) w.heap.size 0 (fun _ => []) none :=
  ⟨fun _ => none, MapIs.made w, Nat.lt_succ_self _, fun key _ => .inl ⟨rfl, rfl⟩, fun k1 k2 v1 v2 _ _ _ h => by cases h⟩
theorem apt_next {v : Value} {zs : List Int} {no no' : Option Nat} (hv : Qv w base e v zs) (h : Apt v no) (hn : no' = no ∨ ∃ g, no' = some g ∧ w.heap.size ≤ g) : Apt v no' := by
  rcases hn with rfl | ⟨g, rfl, hg⟩
  · exact h
  · cases hb : v.ownBlock with
    | none => exact .inl hb
    | some g' =>
      refine .inr fun e => ?_
      have := (hv.lt hb).2
      rw [hb] at e
      cases e
      omega
theorem QsX.next {row no' r' : Option Nat} (h : QsX P k e w base b n W no ex r st) (hg : w.grownBy w' row) (hrow : row = r ∨ row = no ∨ row = none) (hb : some b ≠ row)
    (hr : r' = r ∨ ∃ g, r' = some g ∧ w.heap.size ≤ g) (hn : no' = no ∨ ∃ g, no' = some g ∧ w.heap.size ≤ g) : QsX P k e w' base b n W no' ex r' st := by
  obtain ⟨M, hM, hbb, h1, h2⟩ := h
  refine ⟨M, hM.kept hg hb, hbb, fun key hk => ?_, h2⟩
  rcases h1 key hk with h | ⟨v, hv, hq, ha, ha'⟩
  · exact .inl h
  · refine .inr ⟨v, hv, hq.kept hg ?_, apt_next hq ha hn, apt_next hq ha' hr⟩
    rcases hrow with rfl | rfl | rfl
    · exact ha'
    · exact ha
    · cases hb : v.ownBlock with
      | none => exact .inl rfl
      | some g => exact .inr (by simp)
/-- A look-up takes one row out. -/
theorem QsX.look {t E : TypeId} {key : Value} {kl : Lit} (h : Qs P k e w base b n W no) (K : Keyed P k) (ht : P.underlying t = some (.map k E)) (hz : (zeroValue E).run P w = .ok (.slice none 0 0) w) (hkey : keyOf P k key = some kl) :
    ∃ v, (Instr.lookup t (.map (some b)) key false).run P w = .ok v w ∧ Qv w base e v (W key) ∧ Apt v no ∧ QsX P k e w base b n W no (fun x => x = key) v.ownBlock none := by
  obtain ⟨M, hM, hbb, h1, h2⟩ := h
  have hl := hM.look K ht hz hkey
  refine ⟨_, hl, ?_, ?_, M, hM, hbb, fun key' hne => ?_, fun k1 k2 v1 v2 hk1 hk2 => h2 k1 k2 v1 v2 (fun h => h) (fun h => h)⟩
  · rcases h1 key (fun h => h) with ⟨e1, e2⟩ | ⟨v, e1, hq, _⟩
    · rw [e1, e2]; exact .inl ⟨rfl, rfl⟩
    · rw [e1]; exact hq
  · rcases h1 key (fun h => h) with ⟨e1, e2⟩ | ⟨v, e1, hq, ha, _⟩
    · rw [e1]; exact .inl rfl
    · rw [e1]; exact ha
  · rcases h1 key' (fun h => h) with h | ⟨v, e1, hq, ha, _⟩
    · exact .inl h
    · refine .inr ⟨v, e1, hq, ha, ?_⟩
      cases hm : M key with
      | none =>
        cases hb : v.ownBlock with
        | none => exact .inl hb
        | some g => exact .inr (by rw [hb]; simp [Value.ownBlock])
      | some u => exact h2 key' key v u (fun h => h) (fun h => h) hne e1 hm
theorem qs_back {w2 : World} {M : Value → Option Value} {key val : Value} {zs : List Int} (hbb : b < base)
    (h1 : ∀ key', ¬ key' = key → (M key' = none ∧ W key' = []) ∨ ∃ v, M key' = some v ∧ Qv w base e v (W key') ∧ Apt v no ∧ Apt v r)
    (h2 : ∀ k1 k2 v1 v2, ¬ k1 = key → ¬ k2 = key → k1 ≠ k2 → M k1 = some v1 → M k2 = some v2 → Apt v1 v2.ownBlock)
    (hg : w.grownBy w2 (some b)) (hM2 : MapIs P k w2 b n (setV M key (some val)) none) (hv : Qv w base e val zs) (hr : val.ownBlock = none ∨ val.ownBlock = r) (ha : Apt val no) : Qs P k e w2 base b n (setV W key zs) no := by
  have keep : ∀ {u : Value} {ys : List Int}, Qv w base e u ys → Qv w2 base e u ys := fun {u ys} hq => hq.kept hg (by
    cases hb : u.ownBlock with
    | none => exact .inl rfl
    | some g =>
      refine .inr fun e1 => ?_
      have := (hq.lt hb).1
      cases e1
      omega)
  have apn : ∀ u : Value, Apt u none := fun u => by
    cases hb : u.ownBlock with
    | none => exact .inl hb
    | some g => exact .inr (by rw [hb]; simp)
  have aptv : ∀ key', ¬ key' = key → ∀ u, M key' = some u → Apt u val.ownBlock ∧ Apt val u.ownBlock := by
    intro key' hne u hu
    have hur : Apt u r := by
      rcases h1 key' hne with ⟨e1, _⟩ | ⟨v, e1, _, _, har⟩
      · rw [e1] at hu; cases hu
      · rw [e1] at hu; cases hu; exact har
    rcases hr with hr | hr
    · exact ⟨by rw [hr]; exact apn u, .inl hr⟩
    · rw [hr]
      refine ⟨hur, ?_⟩
      rcases hur with h | h
      · rw [h]; exact apn val
      · exact .inr (by rw [hr]; exact fun e => h e.symm)
  refine ⟨_, hM2, hbb, fun key' _ => ?_, fun k1 k2 v1 v2 _ _ hne e1 e2 => ?_⟩
  · by_cases hk : key' = key
    · subst hk
      rw [setV_same, setV_same]
      exact .inr ⟨val, rfl, keep hv, ha, apn val⟩
    · rw [setV_other _ _ hk, setV_other _ _ hk]
      rcases h1 key' hk with h | ⟨v, e1, hq, ha', _⟩
      · exact .inl h
      · exact .inr ⟨v, e1, keep hq, ha', apn v⟩
  · by_cases hk1 : k1 = key
    · by_cases hk2 : k2 = key
      · exact absurd (hk1.trans hk2.symm) hne
      · subst hk1
        rw [setV_same] at e1
        rw [setV_other _ _ hk2] at e2
        cases e1
        exact (aptv k2 hk2 v2 e2).2
    · rw [setV_other _ _ hk1] at e1
      by_cases hk2 : k2 = key
      · subst hk2
        rw [setV_same] at e2
        cases e2
        exact (aptv k1 hk1 v1 e1).1
      · rw [setV_other _ _ hk2] at e2
        exact h2 k1 k2 v1 v2 hk1 hk2 hne e1 e2

/-- A store puts it back. -/
theorem QsX.store {t E : TypeId} {key val : Value} {kl : Lit} {zs : List Int} (h : QsX P k e w base b n W no (fun x => x = key) r st) (K : Keyed P k) (ht : P.underlying t = some (.map k E)) (hkey : keyOf P k key = some kl)
    (hv : Qv w base e val zs) (hr : val.ownBlock = none ∨ val.ownBlock = r) (ha : Apt val no) :
    ∃ w2, (Instr.mapUpdate t (.map (some b)) key val).run P w = .ok () w2 ∧ w.grownBy w2 (some b) ∧ Qs P k e w2 base b (n + 1) (setV W key zs) no := by
  obtain ⟨M, hM, hbb, h1, h2⟩ := h
  obtain ⟨w2, hrun, hg, hM2⟩ := hM.store (val := val) K ht hkey
  exact ⟨w2, hrun, hg, qs_back hbb h1 h2 hg hM2 hv hr ha⟩
theorem QsX.put {t : TypeId} {key val : Value} {zs : List Int} {s : Nat} (h : QsX P k e w base b n W no (fun x => x = key) r (some (key, s)))
    (hv : Qv w base e val zs) (hr : val.ownBlock = none ∨ val.ownBlock = r) (ha : Apt val no) :
    ∃ w2, (Instr.entryStore t (.map (some b)) (goInt s) val).run P w = .ok () w2 ∧ w.grownBy w2 (some b) ∧ Qs P k e w2 base b n (setV W key zs) no := by
  obtain ⟨M, hM, hbb, h1, h2⟩ := h
  obtain ⟨w2, hrun, hg, hM2⟩ := hM.put (val := val) (t := t)
  exact ⟨w2, hrun, hg, qs_back hbb h1 h2 hg hM2 hv hr ha⟩
theorem QsX.enter {t E : TypeId} {key : Value} {kl : Lit} (h : Qs P k e w base b n W no) (K : Keyed P k) (ht : P.underlying t = some (.map k E)) (hz : (zeroValue E).run P w = .ok (.slice none 0 0) w) (hkey : keyOf P k key = some kl) :
    ∃ (w2 : World) (v : Value) (s : Nat), (Instr.mapEntry t (.map (some b)) key).run P w = .ok (.tuple #[v, goInt s]) w2 ∧ w.grownBy w2 (some b) ∧ Qv w2 base e v (W key) ∧ Apt v no ∧ QsX P k e w2 base b (n + 1) W no (fun x => x = key) v.ownBlock (some (key, s)) := by
  obtain ⟨v0, hrun0, hv0, ha0, M0, hM0, hbb, h1, h2⟩ := QsX.look h K ht hz hkey
  obtain ⟨M, hM, _, g1, g2⟩ := h
  obtain ⟨w2, s, hrun, hg, hM2⟩ := hM.enter K ht hz hkey
  have keep : ∀ {u : Value} {ys : List Int}, Qv w base e u ys → Qv w2 base e u ys := fun {u ys} hq => hq.kept hg (by
    cases hb : u.ownBlock with
    | none => exact .inl rfl
    | some g =>
      refine .inr fun e1 => ?_
      have := (hq.lt hb).1
      cases e1
      omega)
  have hq : Qv w base e ((M key).getD (.slice none 0 0)) (W key) ∧ Apt ((M key).getD (.slice none 0 0)) no := by
    rcases g1 key (fun h => h) with ⟨e1, e2⟩ | ⟨v, e1, hq, ha, _⟩
    · rw [e1, e2]; exact ⟨.inl ⟨rfl, rfl⟩, .inl rfl⟩
    · rw [e1]; exact ⟨hq, ha⟩
  refine ⟨w2, _, s, hrun, hg, keep hq.1, hq.2, _, hM2, hbb, fun key' hne => ?_, fun k1 k2 v1 v2 hk1 hk2 hne e1 e2 => ?_⟩
  · rw [setV_other _ _ hne]
    rcases g1 key' (fun h => h) with h | ⟨v, e1, hq, ha, _⟩
    · exact .inl h
    · refine .inr ⟨v, e1, keep hq, ha, ?_⟩
      cases hm : M key with
      | none =>
        cases hb : v.ownBlock with
        | none => exact .inl hb
        | some g => exact .inr (by rw [hb]; simp [Value.ownBlock])
      | some u => exact g2 key' key v u (fun h => h) (fun h => h) hne e1 hm
  · rw [setV_other _ _ hk1] at e1
    rw [setV_other _ _ hk2] at e2
    exact g2 k1 k2 v1 v2 (fun h => h) (fun h => h) hne e1 e2

/-! ### What is appended to a row -/
theorem own_q {xs : List Value} {m : Nat} {v : Value} {zs : List Int} (h : w.ownsRow base e 1 v m xs) (hx : xs = zs.map (Value.int .i64)) (hm : m = zs.length) : Qv w base e v zs := by
  subst hm
  rcases h.2 with ⟨rfl, h0⟩ | ⟨g, cap, cur, rfl, hb, hg, hn, hc, hs, ht⟩
  · exact .inl ⟨rfl, List.length_eq_zero_iff.1 h0⟩
  · refine .inr ⟨g, 0, cap, cur, rfl, hb, hg, hn, hc, by omega, fun j hj => ?_⟩
    rw [Nat.zero_add, Nat.mul_one] at *
    have : (cur.toList.take zs.length)[j]? = (zs.map (Value.int .i64))[j]? := by rw [ht, hx]
    rw [List.getElem?_take, if_pos hj, List.getElem?_map, List.getElem?_eq_getElem hj] at this
    simpa using this
theorem run_append_q {v : Value} {zs : List Int} (h : Qv w base e v zs) (t ty : TypeId) (i : TypeInfo) (ht : P.underlying t = some (.slice e)) (hi : P.info? e = some i) (hz : i.zero = some (.int .i64 0)) (hsize : i.size = 1) (hby : i.bytes = 8)
    (H c : Nat) (x : Int) (hH : w.cell? ⟨H, 0, none⟩ = some (.int .i64 x)) (hlen : zs.length < 1000000) (hbase : base ≤ w.heap.size) :
    ∃ v' w', (Builtin.append_ #[t, t] ty #[v, .slice (some ⟨H, 0, none⟩) 1 c]).run P w = .ok v' w' ∧ Qv w' base e v' (zs ++ [x]) ∧ w.grownBy w' v.ownBlock ∧ (v'.ownBlock = v.ownBlock ∨ ∃ g, v'.ownBlock = some g ∧ w.heap.size ≤ g) := by
  have hnews : ∀ j u, [Value.int .i64 x][j]? = some u → w.cell? ((⟨H, 0, none⟩ : Addr).add j) = some u := by
    intro j u hu
    cases j with
    | zero => simp at hu; subst hu; exact hH
    | succ j => simp at hu
  rcases h with ⟨rfl, rfl⟩ | ⟨g, o, cp, cur, rfl, hb, hh, hn, hc, hs, hcell⟩
  · have hr := run_append_own_at (P := P) w base t ty e i _ 1 8 ht hi hz hsize hby rfl (by decide) (.slice none 0 0) 0 [] (World.ownsRow_nil _ _ _ _) ⟨H, 0, none⟩ 1 c [.int .i64 x] rfl hnews (by simp [Value.oneCell']) (by unfold maxLen; omega) (by omega) hbase
    obtain ⟨v', w', hr, ho, hg, _, hl⟩ := hr
    exact ⟨v', w', hr, own_q ho rfl rfl, hg, hl.imp id fun h => ⟨_, h, Nat.le_refl _⟩⟩
  · have hglt : g < w.heap.size := (Array.getElem?_eq_some_iff.1 hh).1
    by_cases hroom : zs.length + 1 ≤ cp
    · have hlt : o + zs.length < cur.size := by omega
      have hcl : ∀ k, w.cell? ⟨g, k, none⟩ = cur[k]? := fun k => by simp [World.cell?, hh]
      have hr := run_append_room_cells (P := P) w t ty e i ht hi g o zs.length cp ⟨H, 0, none⟩ 1 c [.int .i64 x] (by rw [hsize]; rfl) hnews (by simp [Value.oneCell']) hroom
        (by intro j hj; have : j = 0 := (by simpa using hj); subst this; rw [hcl, hsize, Nat.mul_one, Nat.add_zero, Array.getElem?_eq_getElem hlt]; rfl)
        (by intro j hj; simp [World.frozen?, hh])
      rw [hsize, Nat.mul_one] at hr
      have hset : (w.setCells g (o + zs.length) [.int .i64 x]).heap[g]? = some (.cells (cur.setIfInBounds (o + zs.length) (.int .i64 x)) e (0, 0)) := heap_setCell_same w g _ cur e _ hh
      refine ⟨_, _, hr, .inr ⟨g, o, cp, _, by rw [List.length_append]; rfl, hb, hset, by simpa using hroom, hc, by simpa using hs, fun j hj => ?_⟩, ⟨rfl, rfl, rfl, by simp [World.setCells, World.setCell], fun q hq hne => heap_setCell_other w _ q _ (fun e => hne (by rw [e]; rfl))⟩, .inl rfl⟩
      rw [Array.getElem?_setIfInBounds]
      by_cases hjl : j < zs.length
      · rw [if_neg (by omega), List.getElem_append_left hjl]
        exact hcell j hjl
      · have : j = zs.length := by simp at hj; omega
        subst this
        rw [if_pos rfl, if_pos hlt]
        simp
    · have hr := run_append_arg_grows (P := P) w t ty e i _ 1 8 ht hi hz hsize hby rfl (by decide) ⟨g, o, none⟩ zs.length cp (zs.map (Value.int .i64)) (by simp) (by
          intro j u hu
          have hj : j < zs.length := by
            rw [List.getElem?_map] at hu
            cases hq : zs[j]? with
            | none => rw [hq] at hu; cases hu
            | some _ => exact (List.getElem?_eq_some_iff.1 hq).1
          rw [List.getElem?_map, List.getElem?_eq_getElem hj] at hu
          have hadd : (⟨g, o, none⟩ : Addr).add j = ⟨g, o + j, none⟩ := Addr.add_lit ..
          rw [hadd]
          simp only [World.cell?, hh]
          simpa using (hcell j hj).trans hu) ⟨H, 0, none⟩ 1 c [.int .i64 x] rfl hnews (by omega) (by unfold maxLen; omega) (by omega)
      obtain ⟨v', w', hr, ho, hg⟩ := hr
      obtain ⟨g', cap, hv', hge, hgl⟩ := ho.form (by omega)
      have hq := own_q (zs := zs ++ [x]) ho (by simp) (by simp)
      refine ⟨v', w', hr, ?_, ⟨hg.os, hg.tape, hg.output, hg.size, fun q hq _ => hg.block q hq (by simp)⟩, .inr ⟨g', by rw [hv']; rfl, hge⟩⟩
      rcases hq with hq | ⟨a, b', c', d, h1, h2, r⟩
      · exact .inl hq
      · exact .inr ⟨a, b', c', d, h1, Nat.le_trans hbase h2, r⟩
end
end Go.Proofs.Ytgbddcdpbgaojaa
/- The laws of a map of rows, at the operations of a walk. It bears no condition. -/
namespace Go.Proofs.Ytgbddcdpbgaojaa
open Go Go.Maps Go.MapKept
set_option linter.unusedVariables false
set_option linter.unusedSimpArgs false
section
variable {P : Program} {k e : TypeId} {w : World} {base b n : Nat} {W : Value → List Int} {no r : Option Nat} {st : Option (Value × Nat)}
theorem Qv.form {v : Value} {zs : List Int} (h : Qv w base e v zs) : ∃ A c, v = .slice A zs.length c ∧ zs.length ≤ c := by
  rcases h with ⟨rfl, rfl⟩ | ⟨g, o, c, cur, rfl, _, _, h, _⟩
  · exact ⟨_, _, rfl, Nat.le_refl _⟩
  · exact ⟨_, _, rfl, h⟩
theorem wpList_look {ops : Array Oper} {rest : List Oper} {o : Oper} {a : Act} {Q : Exit → Act → World → Prop} (hgd : o.guard = none) (m x : Operand) (t : TypeId) (hop : o.op = Op.lookup t m x false)
    {E : TypeId} {key : Value} {kl : Lit} (h : Qs P k e w base b n W no) (K : Keyed P k) (ht : P.underlying t = some (.map k E)) (hz : (zeroValue E).run P w = .ok (.slice none 0 0) w) (hkey : keyOf P k key = some kl)
    (hm : a.eval m = .map (some b)) (hx : a.eval x = key)
    (hK : ∀ A c, Qv w base e (.slice A (W key).length c) (W key) → Apt (.slice A (W key).length c) no → QsX P k e w base b n W no (fun x => x = key) (Value.ownBlock (.slice A (W key).length c)) none → wpList P ops Q rest (a.put o.dst (.slice A (W key).length c)) w) :
    wpList P ops Q (o :: rest) a w := by
  refine wpList_plain hgd fun K' hK' => ?_
  obtain ⟨v, hrun, hq, ha, hX⟩ := QsX.look h K ht hz hkey
  obtain ⟨A, c, rfl, _⟩ := hq.form
  unfold Oper.wp
  simp [execOp, hop, hm, hx, hrun, Result.andThen]
  exact hK' _ _ (hK A c hq ha hX)
theorem Qv.tail {g o c : Nat} {z : Int} {zs : List Int} (h : Qv w base e (.slice (some ⟨g, o, none⟩) (zs.length + 1) c) (z :: zs)) : Qv w base e (.slice (some ⟨g, o + 1, none⟩) zs.length (c - 1)) zs := by
  rcases h with ⟨h, _⟩ | ⟨g', o', c', cur, hv, hb, hh, hn, hc, hs, hcell⟩
  · cases h
  · simp only [Value.slice.injEq, Option.some.injEq, Addr.mk.injEq, List.length_cons] at hv
    obtain ⟨⟨rfl, rfl, _⟩, _, rfl⟩ := hv
    simp only [List.length_cons] at hn hcell
    refine .inr ⟨g, o + 1, c - 1, cur, rfl, hb, hh, by omega, by omega, by omega, fun j hj => ?_⟩
    rw [Nat.add_assoc, Nat.add_comm 1 j]
    exact hcell (j + 1) (by omega)
theorem Qv.last {g o c : Nat} {z : Int} (h : Qv w base e (.slice (some ⟨g, o, none⟩) 1 c) [z]) : Qv w base e (.slice (some ⟨g, o, none⟩) 0 0) [] := by
  rcases h with ⟨h, _⟩ | ⟨g', o', c', cur, hv, hb, hh, hn, hc, hs, hcell⟩
  · cases h
  · simp only [Value.slice.injEq, Option.some.injEq, Addr.mk.injEq, List.length_cons] at hv
    obtain ⟨⟨rfl, rfl, _⟩, _, rfl⟩ := hv
    exact .inr ⟨g, o, 0, cur, rfl, hb, hh, by simp, by omega, by omega, fun j hj => by simp at hj⟩
theorem wpList_look0 {ops : Array Oper} {rest : List Oper} {o : Oper} {a : Act} {Q : Exit → Act → World → Prop} (hgd : o.guard = none) (m x : Operand) (t : TypeId) (hop : o.op = Op.lookup t m x false)
    {E : TypeId} {key : Value} {kl : Lit} (h : Qs P k e w base b n W no) (K : Keyed P k) (ht : P.underlying t = some (.map k E)) (hz : (zeroValue E).run P w = .ok (.slice none 0 0) w) (hkey : keyOf P k key = some kl)
    (hm : a.eval m = .map (some b)) (hx : a.eval x = key) (hW : W key = [])
    (hK : ∀ A c, wpList P ops Q rest (a.put o.dst (.slice A 0 c)) w) :
    wpList P ops Q (o :: rest) a w :=
  wpList_look hgd m x t hop h K ht hz hkey hm hx fun A c _ _ _ => by rw [hW]; exact hK A c
theorem wpList_look1 {ops : Array Oper} {rest : List Oper} {o : Oper} {a : Act} {Q : Exit → Act → World → Prop} (hgd : o.guard = none) (m x : Operand) (t : TypeId) (hop : o.op = Op.lookup t m x false)
    {E : TypeId} {key : Value} {kl : Lit} (h : Qs P k e w base b n W no) (K : Keyed P k) (ht : P.underlying t = some (.map k E)) (hz : (zeroValue E).run P w = .ok (.slice none 0 0) w) (hkey : keyOf P k key = some kl)
    (hm : a.eval m = .map (some b)) (hx : a.eval x = key) {z : Int} {zs : List Int} (hW : W key = z :: zs) (q : Nat) (hq : zs.length = q)
    (hK : ∀ g i c, q + 1 ≤ c → c ≤ maxLen → w.cell? ⟨g, i, none⟩ = some (.int .i64 z) → Qv w base e (.slice (some ⟨g, i, none⟩) (zs.length + 1) c) (z :: zs) → Apt (.slice (some ⟨g, i, none⟩) (zs.length + 1) c) no →
      QsX P k e w base b n W no (fun x => x = key) (some g) none → wpList P ops Q rest (a.put o.dst (.slice (some ⟨g, i, none⟩) (q + 1) c)) w) :
    wpList P ops Q (o :: rest) a w := by
  subst hq
  refine wpList_look hgd m x t hop h K ht hz hkey hm hx fun A c hq ha hX => ?_
  rw [hW] at hq ha hX ⊢
  rcases hq with ⟨h, h'⟩ | ⟨g, i, c', cur, hv, hb, hh, hn, hc, hs, hcell⟩
  · cases h'
  · simp only [Value.slice.injEq] at hv
    obtain ⟨rfl, _, rfl⟩ := hv
    have h0 := hcell 0 (by simp)
    exact hK g i c hn hc (by simpa [World.cell?, hh] using h0) (.inr ⟨g, i, c, cur, rfl, hb, hh, hn, hc, hs, hcell⟩) ha hX
theorem wpList_enter {ops : Array Oper} {rest : List Oper} {o : Oper} {a : Act} {Q : Exit → Act → World → Prop} (hgd : o.guard = none) (m x : Operand) (t : TypeId) (hop : o.op = Op.mapEntry t m x)
    {E : TypeId} {key : Value} {kl : Lit} (h : Qs P k e w base b n W no) (K : Keyed P k) (ht : P.underlying t = some (.map k E)) (hz : (zeroValue E).run P w = .ok (.slice none 0 0) w) (hkey : keyOf P k key = some kl)
    (hm : a.eval m = .map (some b)) (hx : a.eval x = key)
    (hK : ∀ w2 v s, w.grownBy w2 (some b) → Qv w2 base e v (W key) → Apt v no → QsX P k e w2 base b (n + 1) W no (fun x => x = key) v.ownBlock (some (key, s)) → wpList P ops Q rest (a.put o.dst (.tuple #[v, .int .i64 (s : Nat)])) w2) :
    wpList P ops Q (o :: rest) a w := by
  refine wpList_plain hgd fun K' hK' => ?_
  obtain ⟨w2, v, s, hrun, hg, hq, ha, hX⟩ := QsX.enter h K ht hz hkey
  unfold Oper.wp
  simp [execOp, hop, hm, hx, hrun, Result.andThen]
  exact hK' _ _ (hK w2 v s hg hq ha hX)
theorem wpList_put {ops : Array Oper} {rest : List Oper} {o : Oper} {a : Act} {Q : Exit → Act → World → Prop} (hgd : o.guard = none) (m x y : Operand) (t : TypeId) (hop : o.op = Op.entryStore t m x y)
    {key val : Value} {zs : List Int} {s : Nat} (h : QsX P k e w base b n W no (fun x => x = key) r (some (key, s))) (hv : Qv w base e val zs) (hr : val.ownBlock = none ∨ val.ownBlock = r) (ha : Apt val no)
    (hm : a.eval m = .map (some b)) (hx : a.eval x = .int .i64 (s : Nat)) (hy : a.eval y = val)
    (hK : ∀ w2, w.grownBy w2 (some b) → Qs P k e w2 base b n (setV W key zs) no → wpList P ops Q rest (a.put o.dst undef) w2) :
    wpList P ops Q (o :: rest) a w := by
  refine wpList_plain hgd fun K' hK' => ?_
  obtain ⟨w2, hrun, hg, hX⟩ := h.put (t := t) hv hr ha
  have hrun' : (Instr.entryStore t (.map (some b)) (.int .i64 (s : Nat)) val).run P w = .ok () w2 := hrun
  unfold Oper.wp
  simp [execOp, hop, hm, hx, hy, hrun', Result.andThen]
  exact hK' _ _ (hK w2 hg hX)
theorem wpList_app {ops : Array Oper} {rest : List Oper} {o : Oper} {a : Act} {Q : Exit → Act → World → Prop} (hgd : o.guard = none) (s x : Operand) (t : TypeId) (ho : o.op = .call { callee := .builtin .append, args := #[s, x], argTypes := #[t, t] })
    {v : Value} {zs : List Int} (h : Qv w base e v zs) (i : TypeInfo) (ht : P.underlying t = some (.slice e)) (hi : P.info? e = some i) (hz : i.zero = some (.int .i64 0)) (hsize : i.size = 1) (hby : i.bytes = 8)
    (H c : Nat) (z : Int) (hH : w.cell? ⟨H, 0, none⟩ = some (.int .i64 z)) (hlen : zs.length < 1000000) (hbase : base ≤ w.heap.size)
    (hs : a.eval s = v) (hx : a.eval x = .slice (some ⟨H, 0, none⟩) 1 c)
    (hK : ∀ v' w', Qv w' base e v' (zs ++ [z]) → w.grownBy w' v.ownBlock → (v'.ownBlock = v.ownBlock ∨ ∃ g, v'.ownBlock = some g ∧ w.heap.size ≤ g) → wpList P ops Q rest (a.put o.dst v') w') :
    wpList P ops Q (o :: rest) a w := by
  refine wpList_plain hgd fun K' hK' => ?_
  obtain ⟨v', w', hr, h1, h2, h3⟩ := run_append_q h t o.type i ht hi hz hsize hby H c z hH hlen hbase
  unfold Oper.wp execOp
  simp only [ho, resolve, invoke, builtin, Sem.run_bind, Sem.run_pure, Result.andThen_ok, List.map_toArray, List.map_cons, List.map_nil, hs, hx, hr]
  exact hK' _ _ (hK v' w' h1 h2 h3)
theorem wp_store {o : Oper} {a : Act} {K' : Act → World → Prop} {Q : Exit → Act → World → Prop} (m x y : Operand) (t : TypeId) (hop : o.op = Op.mapUpdate t m x y)
    {E : TypeId} {key val : Value} {kl : Lit} {zs : List Int} (h : QsX P k e w base b n W no (fun x => x = key) r st) (K : Keyed P k) (ht : P.underlying t = some (.map k E)) (hkey : keyOf P k key = some kl)
    (hv : Qv w base e val zs) (hr : val.ownBlock = none ∨ val.ownBlock = r) (ha : Apt val no)
    (hm : a.eval m = .map (some b)) (hx : a.eval x = key) (hy : a.eval y = val)
    (hK : ∀ w2, w.grownBy w2 (some b) → Qs P k e w2 base b (n + 1) (setV W key zs) no → K' (a.put o.dst undef) w2) : o.wp P a w K' Q := by
  obtain ⟨w2, hrun, hg, hX⟩ := h.store K ht hkey hv hr ha
  unfold Oper.wp
  simp [execOp, hop, hm, hx, hy, hrun, Result.andThen]
  exact hK w2 hg hX
theorem wpList_store {ops : Array Oper} {rest : List Oper} {o : Oper} {a : Act} {Q : Exit → Act → World → Prop} (hgd : o.guard = none) (m x y : Operand) (t : TypeId) (hop : o.op = Op.mapUpdate t m x y)
    {E : TypeId} {key val : Value} {kl : Lit} {zs : List Int} (h : QsX P k e w base b n W no (fun x => x = key) r st) (K : Keyed P k) (ht : P.underlying t = some (.map k E)) (hkey : keyOf P k key = some kl)
    (hv : Qv w base e val zs) (hr : val.ownBlock = none ∨ val.ownBlock = r) (ha : Apt val no)
    (hm : a.eval m = .map (some b)) (hx : a.eval x = key) (hy : a.eval y = val)
    (hK : ∀ w2, w.grownBy w2 (some b) → Qs P k e w2 base b (n + 1) (setV W key zs) no → wpList P ops Q rest (a.put o.dst undef) w2) : wpList P ops Q (o :: rest) a w :=
  wpList_plain hgd fun _ hK' => wp_store m x y t hop h K ht hkey hv hr ha hm hx hy fun w2 h1 h2 => hK' _ _ (hK w2 h1 h2)
end
end Go.Proofs.Ytgbddcdpbgaojaa
/- The keys of the map that Match makes. It bears no condition. -/
namespace Go.Proofs.Ytgbddcdpbgaojaa
open Go Go.Maps
set_option linter.unusedVariables false
set_option linter.unusedSimpArgs false
theorem law61 : Keyed Try.prog 61 := Keyed.of_law (deep_law_laid (m := 2) (by kernel_rfl) (by omega) (of_decide_eq_true (by kernel_rfl)) (by kernel_rfl) (by kernel_rfl))
theorem zero30 (w : World) : (zeroValue 30).run Try.prog w = .ok (.slice none 0 0) w := by kernel_rfl
theorem info3 : (Try.prog.info? 3).map (fun i => (i.zero, i.size, i.bytes)) = some (some (.int .i64 0), 1, 8) := by kernel_rfl
theorem info33 : (Try.prog.info? 33).map (fun i => (i.zero, i.size, i.bytes)) = some (some (.agg #[.int .i64 0, .int .i64 0]), 2, 16) := by kernel_rfl
theorem lits51 (d : Nat) {a : Int} (h : 0 ≤ a ∧ a < 4294967296) : Try.prog.keyLits (d + 1) 51 [.int .u32 a] = some [.int .u32 a] := by
  unfold Program.keyLits
  rw [show Try.prog.underlying 51 = some (.int .u32) by kernel_rfl]
  have : (Lit.int .u32 a).wf = true := by simp [Lit.wf, IntKind.min, IntKind.max, IntKind.signed, IntKind.bits]; omega
  simp [this]
theorem lits9 (d : Nat) {s : ByteArray} (h : s.size ≤ maxLen) : Try.prog.keyLits (d + 1) 9 [.string s] = some [.string s.data.toList] := by
  unfold Program.keyLits
  rw [show Try.prog.underlying 9 = some .string by kernel_rfl]
  simp [h]
def keyV (a b : Int) (s : ByteArray) : Value := .agg #[.int .u32 a, .int .u32 b, .string s]
theorem size51 : Try.prog.cellsOf 51 = 1 := by kernel_rfl
theorem size9 : Try.prog.cellsOf 9 = 1 := by kernel_rfl
theorem size61 : Try.prog.cellsOf 61 = 3 := by kernel_rfl
theorem kt61 : Try.prog.keyType 61 = true := by kernel_rfl
theorem key61 {a b : Int} {s : ByteArray} (ha : 0 ≤ a ∧ a < 4294967296) (hb : 0 ≤ b ∧ b < 4294967296) (hs : s.size ≤ maxLen) : ∃ kl, keyOf Try.prog 61 (keyV a b s) = some kl := by
  have hf : Value.formed Try.prog 61 (keyV a b s) = true := by
    unfold Value.formed keyV
    simp [Try.underlying61, size61]
  have hl : Try.prog.keyLits (Try.prog.types.size + 1) 61 [.int .u32 a, .int .u32 b, .string s] = some [.int .u32 a, .int .u32 b, .string s.data.toList] := by
    obtain ⟨d, hd⟩ : ∃ d, Try.prog.types.size = d + 1 := ⟨Try.prog.types.size - 1, by have : 0 < Try.prog.types.size := of_decide_eq_true (by kernel_rfl); omega⟩
    rw [hd]
    unfold Program.keyLits
    rw [Try.underlying61]
    simp [size61, size51, size9, lits51 d ha, lits51 d hb, lits9 d hs]
  refine ⟨.string (keyBytes [.int .u32 a, .int .u32 b, .string s.data.toList]), ?_⟩
  unfold keyOf
  rw [Try.underlying61]
  simp only [kt61, hf, Bool.and_self, if_true]
  show (Try.prog.keyLits _ 61 [.int .u32 a, .int .u32 b, .string s]).map _ = _
  rw [hl]; rfl
theorem keyV_inj {a b c d : Int} {s u : ByteArray} (h : keyV a b s = keyV c d u) : a = c ∧ b = d ∧ s = u := by
  unfold keyV at h
  injection h with h
  have := congrArg Array.toList h
  simp at this
  exact this
end Go.Proofs.Ytgbddcdpbgaojaa
/- Match of the program, walked. It bears no condition. -/
namespace Go.Proofs.Ytgbddcdpbgaojaa
open Go Go.Maps Go.RowKit
set_option linter.unusedVariables false
set_option linter.unusedSimpArgs false
theorem hide {p : Prop} (h : p) : Hid p := h
def pre (ev : Nat → Ev) (k : Nat) : List Ev := (List.range k).map ev
theorem pre_len (ev : Nat → Ev) (k : Nat) : (pre ev k).length = k := by simp [pre]
theorem pre_succ (ev : Nat → Ev) (k : Nat) : ms (pre ev (k + 1)) = mStep k (ms (pre ev k)) (ev k) := by
  have : pre ev (k + 1) = pre ev k ++ [ev k] := by simp [pre, List.range_succ]
  rw [this, ms_snoc, pre_len]
def cellsO (out : List (Int × Int)) : List Value := out.flatMap fun m => [.int .i64 m.1, .int .i64 m.2]
theorem cellsO_snoc (out : List (Int × Int)) (m : Int × Int) : cellsO (out ++ [m]) = cellsO out ++ [.int .i64 m.1, .int .i64 m.2] := by simp [cellsO]
def bsOf (l : List UInt8) : ByteArray := ⟨l.toArray⟩
theorem bsOf_inj {l m : List UInt8} (h : bsOf l = bsOf m) : l = m := by
  unfold bsOf at h
  injection h with h
  simpa using congrArg Array.toList h
theorem wait_len (l : List Ev) (key : Key) : ((ms l).W key).length ≤ l.length := by
  rw [(good_ms l).wait]
  unfold sel
  rw [List.length_map]
  exact Nat.le_trans (List.length_filter_le _ _) (by simp)
theorem out_len : ∀ l : List Ev, (ms l).out.length ≤ l.length := snoc_ind (Nat.le_refl _) fun l e ih => by
  rw [ms_snoc, (good_step (good_ms l) e).2]
  split <;> simp <;> omega
def WOf (W : Value → List Int) (l : List Ev) : Prop := ∀ h p bs, W (keyV h p (bsOf bs)) = (ms l).W (h, p, bs)
theorem WOf.set {W : Value → List Int} {l l' : List Ev} (h : WOf W l) {ho pe : Int} {bs : List UInt8} {zs : List Int} (h2 : (ms l').W = upd (ms l).W (ho, pe, bs) zs) : WOf (setV W (keyV ho pe (bsOf bs)) zs) l' := by
  intro a b s
  rw [h2]
  by_cases e : ((a, b, s) : Key) = (ho, pe, bs)
  · cases e
    rw [setV_same, upd_same]
  · rw [upd_other _ _ e, setV_other _ _ (fun e' => e ?_)]
    · exact h a b s
    · obtain ⟨rfl, rfl, hs⟩ := keyV_inj e'
      rw [bsOf_inj hs]
structure MInv (w : World) (ev : Nat → Ev) (wr : World) (k : Nat) (v : Value) : Prop where
  q : ∃ N W, Qs Try.prog 61 3 wr (w.heap.size + 1) w.heap.size N W v.ownBlock ∧ WOf W (pre ev k)
  out : wr.ownsRow (w.heap.size + 1) 33 2 v (ms (pre ev k)).out.length (cellsO (ms (pre ev k)).out)
  below : Below w.heap.size w wr
  size : w.heap.size + 1 ≤ wr.heap.size
theorem MInv.start (w : World) (ev : Nat → Ev) : MInv w ev (w.alloc (.map #[] 0)) 0 (.slice none 0 0) where
  q := ⟨0, fun _ => [], Qs.made w, fun _ _ _ => rfl⟩
  out := World.ownsRow_nil _ _ _ _
  below := (Below.refl _ _).alloc (Nat.le_refl _) _
  size := by simp
theorem grow1 (w : World) (a : Obj) : w.grownBy (w.alloc a) none := World.grownBy_alloc w a none
theorem grow2 (w : World) (a b : Obj) : w.grownBy ((w.alloc a).alloc b) none := (World.grownBy_alloc w a none).trans (World.grownBy_alloc _ b none)
theorem grow3 (w : World) (a b c : Obj) : w.grownBy (((w.alloc a).alloc b).alloc c) none := (grow2 w a b).trans (World.grownBy_alloc _ c none)
theorem Qs.go {w w' : World} {base b n : Nat} {W : Value → List Int} {no : Option Nat} (h : Qs Try.prog 61 3 w base b n W no) (hg : w.grownBy w' none) : Qs Try.prog 61 3 w' base b n W no :=
  QsX.next h hg (.inl rfl) (by simp) (.inl rfl) (.inl rfl)
/-- An event's cells. -/
structure EvAt (w : World) (gl o : Nat) (e : Ev) (A : Option Addr) (n c : Nat) : Prop where
  c0 : w.cell? ⟨gl, o, none⟩ = some (.int .i64 e.kind)
  c1 : w.cell? ⟨gl, o + 1, none⟩ = some (.int .u32 e.host)
  c2 : w.cell? ⟨gl, o + 2, none⟩ = some (.int .u32 e.peer)
  c3 : w.cell? ⟨gl, o + 3, none⟩ = some (.int .i64 e.at_)
  c4 : w.cell? ⟨gl, o + 4, none⟩ = some (.slice A n c)
  conv : ∀ W : World, (∀ g, g < w.heap.size → W.heap[g]? = w.heap[g]?) → (convert 52 9 (.slice A n c)).run Try.prog W = .ok (.string (bsOf e.bytes)) W
  host : 0 ≤ e.host ∧ e.host < 4294967296
  peer : 0 ≤ e.peer ∧ e.peer < 4294967296
  len : (bsOf e.bytes).size ≤ maxLen

theorem apn (u : Value) : Apt u none := by
  cases hb : u.ownBlock with
  | none => exact .inl hb
  | some g => exact .inr (by rw [hb]; simp)
theorem apt_sym {u v : Value} (h : Apt u v.ownBlock) : Apt v u.ownBlock := by
  rcases h with h | h
  · rw [h]; exact apn v
  · exact .inr fun e => h e.symm
theorem apt_new {u v : Value} {no : Option Nat} {m : Nat} (h : Apt u no) (hl : v.ownBlock = u.ownBlock ∨ ∃ g, v.ownBlock = some g ∧ m ≤ g) (hno : ∀ g, no = some g → g < m) : Apt v no := by
  rcases hl with hl | ⟨g, hl, hg⟩
  · rcases h with h | h
    · exact .inl (hl.trans h)
    · exact .inr (by rw [hl]; exact h)
  · refine .inr fun e => ?_
    rw [hl] at e
    have := hno g e.symm
    omega
theorem ne_map {w : World} {b base : Nat} {v : Value} (hv : ∀ g, v.ownBlock = some g → base ≤ g) (hb : b < base) : some b ≠ v.ownBlock := fun e => by
  have := hv b e.symm
  omega
theorem ap_map {w : World} {b base : Nat} {v : Value} (hv : ∀ g, v.ownBlock = some g → base ≤ g) (hb : b < base) : Apt v (some b) := by
  cases h : v.ownBlock with
  | none => exact .inl h
  | some g =>
    refine .inr fun e => ?_
    have := hv g h
    rw [h] at e
    cases e
    omega
theorem MInv.ub {w : World} {ev : Nat → Ev} {wr : World} {k : Nat} {v : Value} (h : MInv w ev wr k v) : ∀ g, v.ownBlock = some g → w.heap.size + 1 ≤ g ∧ g < wr.heap.size := fun g hg => h.out.lt g hg
theorem MInv.sent {w : World} {ev : Nat → Ev} {wr w3 w4 w5 w6 : World} {k N : Nat} {u v : Value} {W : Value → List Int} {e : Ev} (h : MInv w ev wr k u) (hW : WOf W (pre ev k)) (he : ev k = e) (hk1 : e.kind = 1) (g3 : wr.grownBy w3 none) (g4 : w3.grownBy w4 (some w.heap.size))
    (hq : Qv w4 (w.heap.size + 1) 3 v (W (keyV e.host e.peer (bsOf e.bytes)))) (ha : Apt v u.ownBlock) (g5 : w4.grownBy w5 v.ownBlock) (g6 : w5.grownBy w6 (some w.heap.size))
    (hQ : Qs Try.prog 61 3 w6 (w.heap.size + 1) w.heap.size N (setV W (keyV e.host e.peer (bsOf e.bytes)) (W (keyV e.host e.peer (bsOf e.bytes)) ++ [(k : Int)])) u.ownBlock) : MInv w ev w6 (k + 1) u where
  q := by
    refine ⟨N, _, hQ, hW.set ?_⟩
    rw [pre_succ, he]
    unfold mStep
    rw [if_pos hk1, hW]
    rfl
  out := by
    have e1 : (ms (pre ev (k + 1))).out = (ms (pre ev k)).out := by
      rw [pre_succ, he]
      unfold mStep
      rw [if_pos hk1]
    rw [e1]
    have m := ap_map (w := w) (fun g hg => (h.ub g hg).1) (Nat.lt_succ_self w.heap.size)
    exact (((h.out.kept g3 (apn u)).kept g4 m).kept g5 (apt_sym ha)).kept g6 m
  below := by
    have s0 := h.size
    have s3 := g3.size
    have s4 := g4.size
    have s5 := g5.size
    exact ((((h.below.grown g3 (by omega) (fun j hj => by cases hj)).grown g4 (by omega) (fun j hj => by cases hj; exact Nat.le_refl _)).grown g5 (by omega) (fun j hj => by have := (hq.lt hj).1; omega)).grown g6 (by omega) (fun j hj => by cases hj; exact Nat.le_refl _))
  size := Nat.le_trans h.size (Nat.le_trans g3.size (Nat.le_trans g4.size (Nat.le_trans g5.size g6.size)))
theorem MInv.miss {w : World} {ev : Nat → Ev} {wr w3 w5 : World} {k N : Nat} {u v : Value} {W : Value → List Int} {e : Ev} (h : MInv w ev wr k u) (hQ : Qs Try.prog 61 3 wr (w.heap.size + 1) w.heap.size N W u.ownBlock) (hW : WOf W (pre ev k)) (he : ev k = e) (hk3 : e.kind = 3)
    (hz : W (keyV e.peer e.host (bsOf e.bytes)) = []) (g3 : wr.grownBy w3 none)
    (ho : w5.ownsRow (w.heap.size + 1) 33 2 v ((ms (pre ev k)).out.length + 1) (cellsO (ms (pre ev k)).out ++ [.int .i64 (k : Int), .int .i64 (-1)])) (g5 : w3.grownBy w5 u.ownBlock) (hl : v.ownBlock = u.ownBlock ∨ v.ownBlock = some w3.heap.size) : MInv w ev w5 (k + 1) v where
  q := by
    refine ⟨N, W, QsX.next (Qs.go hQ g3) g5 (.inr (.inl rfl)) (ne_map (w := w) (fun g hg => (h.ub g hg).1) (Nat.lt_succ_self _)) (.inl rfl) (hl.imp id fun h => ⟨_, h, Nat.le_refl _⟩), ?_⟩
    intro a b s
    rw [hW, pre_succ, he]
    unfold mStep
    have hw : (ms (pre ev k)).W e.t = [] := by rw [← hz, hW]; rfl
    rw [if_neg (by omega), if_pos hk3, if_pos hw]
  out := by
    have hw : (ms (pre ev k)).W e.t = [] := by rw [← hz, hW]; rfl
    have e1 : (ms (pre ev (k + 1))).out = (ms (pre ev k)).out ++ [((k : Int), -1)] := by
      rw [pre_succ, he]
      unfold mStep
      rw [if_neg (by omega), if_pos hk3, if_pos hw]
    rw [e1, cellsO_snoc, List.length_append]
    exact ho
  below := by
    have s0 := h.size
    have s3 := g3.size
    exact (h.below.grown g3 (by omega) (fun j hj => by cases hj)).grown g5 (by omega) (fun j hj => by have := (h.ub j hj).1; omega)
  size := Nat.le_trans h.size (Nat.le_trans g3.size g5.size)
theorem mid3 (w : World) (a c : Obj) (b : Obj) : (((w.alloc a).alloc b).alloc c).heap[w.heap.size + 1]? = some b := by
  have h1 := (MapKept.heap_alloc (w.alloc a) b).1
  have h2 := (MapKept.heap_alloc ((w.alloc a).alloc b) c).2 (w.heap.size + 1) (by simp)
  rw [h2]
  simpa using h1
theorem apt_row {v : Value} {no : Option Nat} {g i q c m m' : Nat} (h : Apt (.slice (some ⟨g, i, none⟩) q c) no) (hl : v.ownBlock = no ∨ v.ownBlock = some m) (hg : g < m') (hm : m' ≤ m) {j q' c' : Nat} : Apt (.slice (some ⟨g, j, none⟩) q' c') v.ownBlock := by
  rcases hl with hl | hl
  · rw [hl]
    rcases h with h | h
    · cases h
    · exact .inr h
  · refine .inr fun e => ?_
    rw [hl] at e
    have : g = m := by simpa [Value.ownBlock] using e
    omega
theorem MInv.hit {w : World} {ev : Nat → Ev} {wr w3 w5 w5' w6 : World} {k N : Nat} {u v : Value} {W : Value → List Int} {e : Ev} {z : Int} {zs : List Int} (h : MInv w ev wr k u) (hW : WOf W (pre ev k)) (he : ev k = e) (hk3 : e.kind = 3)
    (hz : W (keyV e.peer e.host (bsOf e.bytes)) = z :: zs) (g3 : wr.grownBy w3 none)
    (ho : w5.ownsRow (w.heap.size + 1) 33 2 v ((ms (pre ev k)).out.length + 1) (cellsO (ms (pre ev k)).out ++ [.int .i64 (k : Int), .int .i64 z])) (g5 : w3.grownBy w5 u.ownBlock)
    (gw : w5.grownBy w5' none) (g6 : w5'.grownBy w6 (some w.heap.size)) (hQ : Qs Try.prog 61 3 w6 (w.heap.size + 1) w.heap.size N (setV W (keyV e.peer e.host (bsOf e.bytes)) zs) v.ownBlock) : MInv w ev w6 (k + 1) v where
  q := by
    refine ⟨N, _, hQ, hW.set ?_⟩
    have hw : (ms (pre ev k)).W e.t = z :: zs := by rw [← hz, hW]; rfl
    rw [pre_succ, he]
    unfold mStep
    rw [if_neg (by omega), if_pos hk3, if_neg (by rw [hw]; simp), hw]
    rfl
  out := by
    have hw : (ms (pre ev k)).W e.t = z :: zs := by rw [← hz, hW]; rfl
    have e1 : (ms (pre ev (k + 1))).out = (ms (pre ev k)).out ++ [((k : Int), z)] := by
      rw [pre_succ, he]
      unfold mStep
      rw [if_neg (by omega), if_pos hk3, if_neg (by rw [hw]; simp), hw]
      rfl
    rw [e1, cellsO_snoc, List.length_append]
    have m := ap_map (w := w) (fun g hg => (ho.lt g hg).1) (Nat.lt_succ_self w.heap.size)
    exact (World.ownsRow.kept ho gw (apn v)).kept g6 m
  below := by
    have s0 := h.size
    have s3 := g3.size
    have s5 := g5.size
    have sw := gw.size
    exact (((h.below.grown g3 (by omega) (fun j hj => by cases hj)).grown g5 (by omega) (fun j hj => by have := (h.ub j hj).1; omega)).grown gw (by omega) (fun j hj => by cases hj)).grown g6 (by omega) (fun j hj => by cases hj; exact Nat.le_refl _)
  size := Nat.le_trans h.size (Nat.le_trans g3.size (Nat.le_trans g5.size (Nat.le_trans gw.size g6.size)))
theorem MInv.skip {w : World} {ev : Nat → Ev} {wr w3 : World} {k : Nat} {u : Value} {e : Ev} (h : MInv w ev wr k u) (he : ev k = e) (hk1 : ¬ e.kind = 1) (hk3 : ¬ e.kind = 3) (g3 : wr.grownBy w3 none) : MInv w ev w3 (k + 1) u := by
  have e1 : ms (pre ev (k + 1)) = ms (pre ev k) := by
    rw [pre_succ, he]
    unfold mStep
    rw [if_neg hk1, if_neg hk3]
  have s0 := h.size
  obtain ⟨N, W, hQ, hW⟩ := h.q
  refine ⟨⟨N, W, Qs.go hQ g3, fun a b s => by rw [hW, e1]⟩, by rw [e1]; exact h.out.kept g3 (apn u), h.below.grown g3 (by omega) (fun j hj => by cases hj), Nat.le_trans h.size g3.size⟩
theorem new3' (w : World) (a b : Obj) (cs : Array Value) (t : TypeId) : (((w.alloc a).alloc b).alloc (.cells cs t)).heap[w.heap.size + 1 + 1]? = some (.cells cs t (0, 0)) := by
  have := (MapKept.heap_alloc ((w.alloc a).alloc b) (.cells cs t)).1
  simpa using this
theorem new3 (w : World) (a b : Obj) (x : Value) (t : TypeId) : (((w.alloc a).alloc b).alloc (.cells #[x] t)).heap[w.heap.size + 1 + 1]? = some (.cells #[x] t (0, 0)) := by
  have := (MapKept.heap_alloc ((w.alloc a).alloc b) (.cells #[x] t)).1
  simpa using this
theorem cell_of_heap0 {w : World} {g : Nat} {cs : Array Value} {t : TypeId} {x : Value} (h : w.heap[g]? = some (.cells cs t (0, 0))) (hx : cs[0]? = some x) : w.cell? ⟨g, 0, none⟩ = some x := by simp [World.cell?, h, hx]
set_option maxRecDepth 1000000 in
set_option maxHeartbeats 3200000 in
theorem match_any (gl ol n c : Nat) (w : World) (ev : Nat → Ev) (hn : n ≤ 1000) (hgl : gl < w.heap.size) (hc : ∀ k, k < n → ∃ A m c', EvAt w gl (ol + k * 5) (ev k) A m c') :
    Calls Try.prog 11 #[.slice (some ⟨gl, ol, none⟩) n c] w fun e w' => ∃ v, e = .returned v ∧ MInv w ev w' n v := by
  have hmm := @run_makeMap Try.prog
  obtain ⟨i0, hi, hz0, hz1, hz2⟩ := info_parts info3
  obtain ⟨j0, hj, hy0, hy1, hy2⟩ := info_parts info33
  have HC := hide hc
  clear hc
  go_enter Try.func11, Try.ntmps11
  go_wp2
  go_loopw [3, 13] (fun v i wr => ∃ k : Nat, k ≤ n ∧ i = .int .i64 k ∧ Hid (MInv w ev wr k v)) (fun _ i _ => n - (intOf i).toNat)
  case atStart => exact ⟨0, Nat.zero_le _, rfl, MInv.start w ev⟩
  case round =>
    obtain ⟨k, hk, rfl, HR⟩ := hrel
    by_cases hlt : k < n
    · obtain ⟨A0, m0, c0, HE0⟩ := HC.out k hlt
      have HE := hide HE0
      clear HE0
      have hcell : ∀ o, wr.cell? ⟨gl, o, none⟩ = w.cell? ⟨gl, o, none⟩ := fun o => HR.out.below.cell (p := ⟨gl, o, none⟩) hgl
      have e0 := (hcell _).trans HE.out.c0
      have e1 := (hcell _).trans HE.out.c1
      have e2 := (hcell _).trans HE.out.c2
      have e3 := (hcell _).trans HE.out.c3
      have e4 := (hcell _).trans HE.out.c4
      have ecv := HE.out.conv (wr.alloc (.cells #[.int .i64 (ev k).kind, .int .u32 (ev k).host, .int .u32 (ev k).peer, .int .i64 (ev k).at_, .slice A0 m0 c0] 58)) (fun g hg => by
        rw [← HR.out.below.block g hg]
        exact (MapKept.heap_alloc _ _).2 _ (Nat.lt_of_lt_of_le hg (Nat.le_of_succ_le HR.out.size)))
      clear hcell
      obtain ⟨e, he⟩ : ∃ e, ev k = e := ⟨_, rfl⟩
      rw [he] at e0 e1 e2 e3 ecv HE
      by_cases hk1 : e.kind = 1
      · rw [hk1] at e0 ecv
        obtain ⟨kl, hkey⟩ := key61 HE.out.host HE.out.peer HE.out.len
        have HK := hide hkey
        clear hkey
        obtain ⟨N, W, hQ, hW⟩ := HR.out.q
        have HQ := hide hQ
        have HW := hide hW
        have HL : Hid ((W (keyV e.host e.peer (bsOf e.bytes))).length < 1000000) := by
          rw [hW]
          have := wait_len (pre ev k) (e.host, e.peer, e.bytes)
          rw [pre_len] at this
          show _ < _
          omega
        have HS := hide HR.out.size
        clear hQ hW
        go_wp2_with (first
          | (refine wpList_enter rfl _ _ 59 rfl (Qs.go HQ.out (grow3 _ _ _ _)) law61 Try.underlying59 (zero30 _) HK.out rfl rfl ?_; intro w4 v s hg4 hq4 ha4 hX4
             have HH : Hid (w4.heap[wr.heap.size + 1 + 1]? = some (.cells #[.int .i64 (k : Int)] 3 (0, 0))) := (hg4.block _ (by simp) (by have := HS.out; simp; omega)).trans (new3 _ _ _ _ _)
             have HB : Hid (w.heap.size + 1 ≤ w4.heap.size) := Nat.le_trans HS.out (Nat.le_trans (grow3 _ _ _ _).size hg4.size)
             have HG := hide hg4
             have HQ4 := hide hq4
             have HA4 := hide ha4
             have HX4 := hide hX4
             clear hg4 hq4 ha4 hX4)
          | (refine wpList_app rfl _ _ 30 rfl HQ4.out i0 Try.underlying30 hi hz0 hz1 hz2 (wr.heap.size + 1 + 1) 1 (k : Int) (cell_of_heap0 HH.out rfl) HL.out HB.out rfl rfl ?_; intro v5 w5 hq5 hg5 hl5
             have HQ5 := hide hq5
             have HG5 := hide hg5
             have HL5 := hide hl5
             have HX5 := hide (QsX.next HX4.out hg5 (.inl rfl) (ne_map (w := w) (fun g hg => (HQ4.out.lt hg).1) (Nat.lt_succ_self _)) hl5 (.inl rfl))
             clear hq5 hg5 hl5)
          | (refine wpList_put rfl _ _ _ 59 rfl HX5.out HQ5.out (.inr rfl) (apt_new HA4.out HL5.out (fun g hg => Nat.lt_of_lt_of_le (HR.out.ub g hg).2 (Nat.le_trans (grow3 _ _ _ _).size HG.out.size))) rfl rfl rfl ?_; intro w6 hg6 hQ6
             have HI := hide (HR.out.sent HW.out he hk1 (grow3 _ _ _ _) HG.out HQ4.out HA4.out HG5.out hg6 hQ6)
             clear hg6 hQ6)
          | go_in)
        exact ⟨⟨k + 1, by omega, by go_num, HI⟩, by simp [intOf]; omega⟩
      · by_cases hk3 : e.kind = 3
        · rw [hk3] at e0 ecv
          obtain ⟨kl, hkey⟩ := key61 HE.out.peer HE.out.host HE.out.len
          have HK := hide hkey
          clear hkey
          obtain ⟨N, W, hQ, hW⟩ := HR.out.q
          have HQ := hide hQ
          have HW := hide hW
          have HO := hide HR.out.out
          have HN : Hid ((ms (pre ev k)).out.length < 1000000) := by
            have := out_len (pre ev k)
            rw [pre_len] at this
            show _ < _
            omega
          have HS := hide HR.out.size
          clear hQ hW
          by_cases hz : W (keyV e.peer e.host (bsOf e.bytes)) = []
          · have HZ := hide hz
            clear hz
            go_wp2_with (first
              | (refine wpList_look0 rfl _ _ 59 rfl (Qs.go HQ.out (grow2 _ _ _)) law61 Try.underlying59 (zero30 _) HK.out rfl rfl HZ.out ?_; intro A c')
              | (refine wpList_append_own_at _ rfl _ _ 26 rfl (w.heap.size + 1) 33 j0 _ 2 16 Try.underlying26 hj hy0 hy1 hy2 rfl (by decide) _ _ _ rfl (HO.out.kept (grow3 _ _ _ _) (apn _)) ⟨wr.heap.size + 1 + 1, 0, none⟩ 1 1 [.int .i64 (k : Int), .int .i64 (-1)] rfl rfl (World.news_of_block (new3' _ _ _ _ _)) (by simp [Value.oneCell']) (by have := HN.out; unfold maxLen; omega) (by have := HN.out; omega) (Nat.le_trans HS.out (grow3 _ _ _ _).size) ?_; intro v5 w5 hown5 hg5 hnil5 hl5
                 have HI := hide (HR.out.miss HQ.out HW.out he hk3 HZ.out (grow3 _ _ _ _) hown5 hg5 hl5)
                 clear hown5 hg5 hl5 hnil5)
              | go_in)
            exact ⟨⟨k + 1, by omega, by go_num, HI⟩, by simp [intOf]; omega⟩
          · obtain ⟨z, zs, hz'⟩ : ∃ z zs, W (keyV e.peer e.host (bsOf e.bytes)) = z :: zs := by
              cases hw : W (keyV e.peer e.host (bsOf e.bytes)) with
              | nil => exact absurd hw hz
              | cons z zs => exact ⟨z, zs, rfl⟩
            obtain ⟨q, hq⟩ : ∃ q, zs.length = q := ⟨_, rfl⟩
            have HZ := hide hz'
            have HL := hide hq
            have hq0 : ((q : Int) + 1 == 0) = false := by simp; omega
            clear hz hz' hq
            go_wp2_with (first
              | (refine wpList_look1 rfl _ _ 59 rfl (Qs.go HQ.out (grow2 _ _ _)) law61 Try.underlying59 (zero30 _) HK.out rfl rfl HZ.out q HL.out ?_; intro g i cc hcc hcm hcl hqv hap hX
                 have HQV := hide hqv
                 have HAP := hide hap
                 have HX := hide hX
                 clear hqv hap hX)
              | (refine wpList_append_own_at _ rfl _ _ 26 rfl (w.heap.size + 1) 33 j0 _ 2 16 Try.underlying26 hj hy0 hy1 hy2 rfl (by decide) _ _ _ rfl (HO.out.kept (grow3 _ _ _ _) (apn _)) ⟨wr.heap.size + 1 + 1, 0, none⟩ 1 1 [.int .i64 (k : Int), .int .i64 z] rfl rfl (World.news_of_block (new3' _ _ _ _ _)) (by simp [Value.oneCell']) (by have := HN.out; unfold maxLen; omega) (by have := HN.out; omega) (Nat.le_trans HS.out (grow3 _ _ _ _).size) ?_; intro v5 w5 hown5 hg5 hnil5 hl5
                 have HO5 := hide hown5
                 have HG5 := hide hg5
                 have HL5 := hide hl5
                 clear hown5 hg5 hl5 hnil5)
              | go_in)
            have hb5 : w5.heap[wr.heap.size + 1]? = some (.cells #[.int .u32 e.peer, .int .u32 e.host, .string (bsOf e.bytes)] 61 (0, 0)) :=
              (HG5.out.block _ (by simp) (fun e' => by have := (HR.out.ub _ e'.symm).2; omega)).trans (mid3 _ _ _ _)
            have d0 : w5.cell? ⟨wr.heap.size + 1, 0, none⟩ = some (.int .u32 e.peer) := by simp [World.cell?, hb5]
            have d1 : w5.cell? ⟨wr.heap.size + 1, 1, none⟩ = some (.int .u32 e.host) := by simp [World.cell?, hb5]
            have d2 : w5.cell? ⟨wr.heap.size + 1, 2, none⟩ = some (.string (bsOf e.bytes)) := by simp [World.cell?, hb5]
            clear hb5 hcl
            have hq1 : (1 : Int) ≤ (q : Int) + 1 := by omega
            have gw : w5.grownBy w5.drew none := ⟨rfl, rfl, rfl, Nat.le_refl _, fun _ _ _ => rfl⟩
            have HX5 := hide ((QsX.next (QsX.next HX.out (World.grownBy_alloc _ _ none) (.inr (.inr rfl)) (by simp) (.inl rfl) (.inl rfl)) HG5.out (.inr (.inl rfl)) (ne_map (w := w) (fun g hg => (HR.out.ub g hg).1) (Nat.lt_succ_self _)) (.inl rfl) (HL5.out.imp id fun h => ⟨_, h, Nat.le_refl _⟩)).next gw (.inr (.inr rfl)) (by simp) (.inl rfl) (.inl rfl))
            have HV5 := hide (((HQV.out.kept (World.grownBy_alloc _ _ none) (apn _)).kept HG5.out HAP.out).kept gw (apn _))
            have HA5 : Hid (∀ j q' c', Apt (.slice (some ⟨g, j, none⟩) q' c') v5.ownBlock) := fun j q' c' => apt_row HAP.out HL5.out (HQV.out.lt rfl).2 (by simp)
            have GW := hide gw
            clear gw
            have fin : ∀ (val : Value), Qv w5.drew (w.heap.size + 1) 3 val zs → val.ownBlock = some g → Apt val v5.ownBlock → ∀ w6, w5.drew.grownBy w6 (some w.heap.size) → Qs Try.prog 61 3 w6 (w.heap.size + 1) w.heap.size (N + 1) (setV W (keyV e.peer e.host (bsOf e.bytes)) zs) v5.ownBlock → Hid (MInv w ev w6 (k + 1) v5) :=
              fun val _ _ _ w6 hg6 hQ6 => HR.out.hit HW.out he hk3 HZ.out (grow3 _ _ _ _) HO5.out HG5.out GW.out hg6 hQ6
            have FIN := hide fin
            clear fin
            by_cases hc1 : cc = 1
            · have hq00 : q = 0 := by omega
              subst hq00 hc1
              have hzs : zs = [] := List.length_eq_zero_iff.1 HL.out
              have HT : Hid (Qv w5.drew (w.heap.size + 1) 3 (.slice (some ⟨g, i, none⟩) 0 0) zs) := by
                have := HV5.out
                rw [hzs] at this ⊢
                exact this.last
              clear hzs
              go_still_tail 4, (by kernel_rfl)
              change wpList _ _ _ _ _ w5.drew
              refine wpList_store rfl _ _ _ 59 rfl HX5.out law61 Try.underlying59 HK.out HT.out (.inr rfl) (HA5.out _ _ _) rfl rfl rfl ?_
              intro w6 hg6 hQ6
              have HI := FIN.out _ HT.out rfl (HA5.out _ _ _) w6 hg6 hQ6
              clear hg6 hQ6
              go_wp2
              exact ⟨⟨k + 1, by omega, by go_num, HI⟩, by simp [intOf]; omega⟩
            · have HT : Hid (Qv w5.drew (w.heap.size + 1) 3 (.slice (some ⟨g, i + 1, none⟩) q (cc - 1)) zs) := by
                have := HV5.out.tail
                rw [HL.out] at this
                exact this
              go_still_tail 4, (by kernel_rfl)
              change wpList _ _ _ _ _ w5.drew
              refine wpList_store rfl _ _ _ 59 rfl HX5.out law61 Try.underlying59 HK.out HT.out (.inr rfl) (HA5.out _ _ _) rfl rfl rfl ?_
              intro w6 hg6 hQ6
              have HI := FIN.out _ HT.out rfl (HA5.out _ _ _) w6 hg6 hQ6
              clear hg6 hQ6
              go_wp2
              exact ⟨⟨k + 1, by omega, by go_num, HI⟩, by simp [intOf]; omega⟩
        · have e1' : (e.kind == 1) = false := by simpa using hk1
          have e3' : (e.kind == 3) = false := by simpa using hk3
          have HI := hide (HR.out.skip he hk1 hk3 (grow1 wr (.cells #[.int .i64 e.kind, .int .u32 e.host, .int .u32 e.peer, .int .i64 e.at_, .slice A0 m0 c0] 58)))
          go_wp2
          exact ⟨⟨k + 1, by omega, by go_num, HI⟩, by simp [intOf]; omega⟩
    · have hkn : k = n := by omega
      subst hkn
      go_wp2
      go_ret
      exact ⟨_, rfl, HR.out⟩
set_option maxRecDepth 1000000 in
theorem match_none (a : Option Addr) (c : Nat) (w : World) (ev : Nat → Ev) :
    Calls Try.prog 11 #[.slice a 0 c] w fun e w' => ∃ v, e = .returned v ∧ MInv w ev w' 0 v := by
  have hmm := @run_makeMap Try.prog
  go_enter Try.func11, Try.ntmps11
  go_wp2
  refine wp_loop_rounds 1 ?_
  rw [rounds_succ]
  go_wp2
  go_ret
  exact ⟨_, rfl, MInv.start w ev⟩
end Go.Proofs.Ytgbddcdpbgaojaa
