/- A map of rows of numbers that a call has made, each row its own: what a look-up, an append and a store do. It bears no condition. -/
import Derived.Maps.OwnRows
import Derived.ArgAppend
import Derived.Deep.AppendLies
namespace Go.Proofs.Ytgbddcdpbgaojaa
open Go Go.Maps Go.MapKept
open Go.ChangeMaps (setBlock heap_setBlock_same heap_setBlock_other)
set_option linter.unusedVariables false
set_option linter.unusedSimpArgs false

noncomputable def setV {α : Type} (M : Value → α) (key : Value) (v : α) : Value → α := fun x => @ite α (x = key) (Classical.propDecidable _) v (M x)
theorem setV_same {α : Type} (M : Value → α) (key : Value) (v : α) : setV M key v key = v := if_pos rfl
theorem setV_other {α : Type} (M : Value → α) {key x : Value} (v : α) (h : x ≠ key) : setV M key v x = M x := if_neg h
section
variable {P : Program} {k : TypeId}

/-! ### A map as a function -/
def MapIs (P : Program) (k : TypeId) (w : World) (b n : Nat) (M : Value → Option Value) (st : Option (Value × Nat)) : Prop :=
  ∃ es clock, w.heap[b]? = some (.map es clock) ∧ es.size ≤ n ∧ (∀ x ∈ es.toList, ∃ l, keyOf P k x.key = some l) ∧ (es.toList.map (·.key)).Nodup ∧ (∀ key v, M key = some v ↔ ∃ x ∈ es.toList, x.key = key ∧ x.val = v) ∧
    (∀ x ∈ es.toList, x.born < clock) ∧ (es.toList.map (·.born)).Nodup ∧ ∀ key s, st = some (key, s) → ∃ x ∈ es.toList, x.key = key ∧ x.born = s
theorem MapIs.made (w : World) : MapIs P k (w.alloc (.map #[] 0)) w.heap.size 0 (fun _ => none) none :=
  ⟨#[], 0, (MapKept.heap_alloc w _).1, by simp, by simp, by simp, (fun key v => by simp), by simp, by simp, fun _ _ h => by cases h⟩
theorem MapIs.lt {w : World} {b n : Nat} {M : Value → Option Value} {st : Option (Value × Nat)} (h : MapIs P k w b n M st) : b < w.heap.size := by
  obtain ⟨es, clock, hb, _⟩ := h
  exact (Array.getElem?_eq_some_iff.1 hb).1
theorem MapIs.kept {w w' : World} {b n : Nat} {M : Value → Option Value} {st : Option (Value × Nat)} {row : Option Nat} (h : MapIs P k w b n M st) (hg : w.grownBy w' row) (hne : some b ≠ row) : MapIs P k w' b n M st := by
  have hlt := h.lt
  obtain ⟨es, clock, hb, r⟩ := h
  exact ⟨es, clock, (hg.block b hlt hne).trans hb, r⟩
theorem MapIs.look {w : World} {b n : Nat} {M : Value → Option Value} {t E : TypeId} {st : Option (Value × Nat)} {z key : Value} {kl : Lit} (h : MapIs P k w b n M st) (K : Keyed P k) (ht : P.underlying t = some (.map k E)) (hz : (zeroValue E).run P w = .ok z w) (hkey : keyOf P k key = some kl) :
    (Instr.lookup t (.map (some b)) key false).run P w = .ok ((M key).getD z) w := by
  obtain ⟨es, clock, hb, _, hk, hn, hM, _⟩ := h
  rcases K.find w hkey es.toList hk with ⟨h1, h2⟩ | ⟨j, e0, h1, h2, h3⟩
  · have : M key = none := by
      cases hm : M key with
      | none => rfl
      | some v =>
        obtain ⟨x, hx, e, _⟩ := (hM key v).1 hm
        exact absurd e (h2 x hx)
    rw [this]
    simp [Instr.lookup, run_underlying ht, MapKept.run_getObj_map hb, K.check w _ hkey, h1, hz, Result.andThen]
  · have : M key = some e0.val := (hM key e0.val).2 ⟨e0, List.mem_of_getElem? h2, h3, rfl⟩
    rw [this]
    simp [Instr.lookup, run_underlying ht, MapKept.run_getObj_map hb, K.check w _ hkey, h1, Result.andThen]
/-- What stands in a row of entries. -/
structure Ents (P : Program) (k : TypeId) (l : List MapEntry) (clock : Nat) (M : Value → Option Value) : Prop where
  keys : ∀ x ∈ l, ∃ kl, keyOf P k x.key = some kl
  apart : (l.map (·.key)).Nodup
  val : ∀ key v, M key = some v ↔ ∃ x ∈ l, x.key = key ∧ x.val = v
  born : ∀ x ∈ l, x.born < clock
  once : (l.map (·.born)).Nodup
theorem Ents.push {l : List MapEntry} {clock : Nat} {M : Value → Option Value} (h : Ents P k l clock M) {key val : Value} {kl : Lit} (hkey : keyOf P k key = some kl) (hnew : ∀ x ∈ l, x.key ≠ key) :
    Ents P k (l ++ [⟨key, val, clock⟩]) (clock + 1) (setV M key (some val)) where
  keys x hx := by
    rcases List.mem_append.1 hx with hx | hx
    · exact h.keys x hx
    · rw [List.mem_singleton] at hx; subst hx; exact ⟨_, hkey⟩
  apart := by
    rw [List.map_append, List.nodup_append]
    refine ⟨h.apart, by simp, fun a ha c hc => ?_⟩
    obtain ⟨x, hx, rfl⟩ := List.mem_map.1 ha
    simp only [List.map_cons, List.map_nil, List.mem_singleton] at hc
    rw [hc]
    exact hnew x hx
  val key' v := by
    by_cases e : key' = key
    · subst e
      rw [setV_same]
      constructor
      · intro e; cases e; exact ⟨_, List.mem_append_right _ (List.mem_singleton.2 rfl), rfl, rfl⟩
      · rintro ⟨x, hx, e1, e2⟩
        rcases List.mem_append.1 hx with hx | hx
        · exact absurd e1 (hnew x hx)
        · rw [List.mem_singleton] at hx; subst hx; rw [← e2]
    · rw [setV_other _ _ e, h.val]
      constructor
      · rintro ⟨x, hx, e1⟩; exact ⟨x, List.mem_append_left _ hx, e1⟩
      · rintro ⟨x, hx, e1, e2⟩
        rcases List.mem_append.1 hx with hx | hx
        · exact ⟨x, hx, e1, e2⟩
        · rw [List.mem_singleton] at hx; subst hx; exact absurd e1.symm e
  born x hx := by
    rcases List.mem_append.1 hx with hx | hx
    · have := h.born x hx; omega
    · rw [List.mem_singleton] at hx; subst hx; exact Nat.lt_succ_self _
  once := by
    rw [List.map_append, List.nodup_append]
    refine ⟨h.once, by simp, fun a ha c hc => ?_⟩
    obtain ⟨x, hx, rfl⟩ := List.mem_map.1 ha
    simp only [List.map_cons, List.map_nil, List.mem_singleton] at hc
    have := h.born x hx
    omega
theorem Ents.set {l : List MapEntry} {clock : Nat} {M : Value → Option Value} (h : Ents P k l clock M) {key val : Value} {j : Nat} {e0 : MapEntry} (h2 : l[j]? = some e0) (h3 : e0.key = key) :
    Ents P k (l.set j ⟨key, val, e0.born⟩) clock (setV M key (some val)) := by
  have hjl : j < l.length := (List.getElem?_eq_some_iff.1 h2).1
  have same : ∀ {α : Type} (f : MapEntry → α), f ⟨key, val, e0.born⟩ = f e0 → (l.set j ⟨key, val, e0.born⟩).map f = l.map f := by
    intro α f hf
    rw [List.map_set]
    refine List.ext_getElem? fun i => ?_
    rw [List.getElem?_set]
    by_cases e : j = i
    · subst e
      rw [if_pos rfl, List.getElem?_map, h2]
      simp [hf]
      simpa using hjl
    · rw [if_neg e]
  have who : ∀ x, x ∈ l.set j ⟨key, val, e0.born⟩ ↔ x = ⟨key, val, e0.born⟩ ∨ (x ∈ l ∧ x.key ≠ key) := by
    intro x
    constructor
    · intro hx
      obtain ⟨i, hi, ex⟩ := List.getElem_of_mem hx
      rw [List.getElem_set] at ex
      split at ex
      · exact Or.inl ex.symm
      · rename_i hne
        have hi' : i < l.length := by simpa using hi
        refine Or.inr ⟨ex ▸ List.getElem_mem hi', fun e1 => hne ?_⟩
        have hp := List.pairwise_iff_getElem.1 h.apart
        have ej : (l.map (·.key))[j]'(by simpa using hjl) = key := by
          rw [List.getElem_map]
          have := (List.getElem?_eq_some_iff.1 h2).2
          rw [this, h3]
        have ei : (l.map (·.key))[i]'(by simpa using hi') = key := by rw [List.getElem_map, ex, e1]
        rcases Nat.lt_trichotomy i j with hij | hij | hij
        · exact absurd (ei.trans ej.symm) (hp i j _ _ hij)
        · exact hij.symm
        · exact absurd (ej.trans ei.symm) (hp j i _ _ hij)
    · rintro (rfl | ⟨hx, hne⟩)
      · exact List.mem_set hjl _
      · obtain ⟨i, hi, ex⟩ := List.getElem_of_mem hx
        have : j ≠ i := by
          rintro rfl
          rw [List.getElem?_eq_getElem hi, ex] at h2
          exact hne (by cases h2; exact h3)
        refine List.mem_iff_getElem?.2 ⟨i, ?_⟩
        rw [List.getElem?_set_ne this, List.getElem?_eq_getElem hi, ex]
  have h0 : e0 ∈ l := List.mem_of_getElem? h2
  refine ⟨fun x hx => ?_, by rw [same (·.key) h3.symm]; exact h.apart, fun key' v => ?_, fun x hx => ?_, by rw [same (·.born) rfl]; exact h.once⟩
  · rcases (who x).1 hx with rfl | ⟨hx', _⟩
    · obtain ⟨kl, hk⟩ := h.keys e0 h0
      exact ⟨kl, by rw [← h3]; exact hk⟩
    · exact h.keys x hx'
  · by_cases e : key' = key
    · subst e
      rw [setV_same]
      constructor
      · intro e; cases e; exact ⟨_, (who _).2 (.inl rfl), rfl, rfl⟩
      · rintro ⟨x, hx, e1, e2⟩
        rcases (who x).1 hx with rfl | ⟨_, hne⟩
        · rw [← e2]
        · exact absurd e1 hne
    · rw [setV_other _ _ e, h.val]
      constructor
      · rintro ⟨x, hx, e1, e2⟩; exact ⟨x, (who x).2 (.inr ⟨hx, by rw [e1]; exact e⟩), e1, e2⟩
      · rintro ⟨x, hx, e1, e2⟩
        rcases (who x).1 hx with rfl | ⟨hx', _⟩
        · exact absurd e1.symm e
        · exact ⟨x, hx', e1, e2⟩
  · rcases (who x).1 hx with rfl | ⟨hx', _⟩
    · exact h.born e0 h0
    · exact h.born x hx'
theorem MapIs.ents {w : World} {b n : Nat} {M : Value → Option Value} {st : Option (Value × Nat)} (h : MapIs P k w b n M st) : ∃ es clock, w.heap[b]? = some (.map es clock) ∧ es.size ≤ n ∧ Ents P k es.toList clock M ∧ ∀ key s, st = some (key, s) → ∃ x ∈ es.toList, x.key = key ∧ x.born = s := by
  obtain ⟨es, clock, hb, hs, a, c, d, e, f, g⟩ := h
  exact ⟨es, clock, hb, hs, ⟨a, c, d, e, f⟩, g⟩
theorem MapIs.of {w : World} {b n : Nat} {M : Value → Option Value} {st : Option (Value × Nat)} {es : Array MapEntry} {clock : Nat} (hb : w.heap[b]? = some (.map es clock)) (hs : es.size ≤ n) (h : Ents P k es.toList clock M) (hst : ∀ key s, st = some (key, s) → ∃ x ∈ es.toList, x.key = key ∧ x.born = s) : MapIs P k w b n M st :=
  ⟨es, clock, hb, hs, h.1, h.2, h.3, h.4, h.5, hst⟩
theorem grown_set {w : World} {b : Nat} {es : Array MapEntry} {clock : Nat} (hb : w.heap[b]? = some (.map es clock)) (o : Obj) : w.grownBy (setBlock w b o) (some b) := ⟨rfl, rfl, rfl, by simp [setBlock], fun i _ hi => heap_setBlock_other hb _ (fun e1 => hi (by rw [e1]))⟩
theorem mod_list {es : Array MapEntry} {j : Nat} {e0 : MapEntry} (h2 : es.toList[j]? = some e0) (f : MapEntry → MapEntry) : (es.modify j f).toList = es.toList.set j (f e0) := by
  have hjl : j < es.toList.length := (List.getElem?_eq_some_iff.1 h2).1
  rw [Array.toList_modify]
  refine List.ext_getElem? fun i => ?_
  rw [List.getElem?_modify, List.getElem?_set]
  by_cases e : j = i
  · subst e
    rw [h2]
    simp
    simpa using hjl
  · simp [e]
theorem MapIs.store {w : World} {b n : Nat} {M : Value → Option Value} {st : Option (Value × Nat)} {t E : TypeId} {key val : Value} {kl : Lit} (h : MapIs P k w b n M st) (K : Keyed P k) (ht : P.underlying t = some (.map k E)) (hkey : keyOf P k key = some kl) :
    ∃ w2, (Instr.mapUpdate t (.map (some b)) key val).run P w = .ok () w2 ∧ w.grownBy w2 (some b) ∧ MapIs P k w2 b (n + 1) (setV M key (some val)) none := by
  obtain ⟨es, clock, hb, hs, hE, _⟩ := h.ents
  rcases K.find w hkey es.toList hE.keys with ⟨h1, h2⟩ | ⟨j, e0, h1, h2, h3⟩
  · refine ⟨setBlock w b (.map (es.push ⟨key, val, clock⟩) (clock + 1)), ?_, grown_set hb _, MapIs.of (heap_setBlock_same hb _) (by simp; omega) (by rw [Array.toList_push]; exact hE.push hkey h2) (fun _ _ h => by cases h)⟩
    simp [Instr.mapUpdate, run_underlying ht, MapKept.run_getObj_map hb, K.check w false hkey, h1, MapKept.run_setObj_map _ hb, Result.andThen, setBlock]
  · have hj : es[j]? = some e0 := by simpa using h2
    refine ⟨setBlock w b (.map (es.modify j (fun e' => { e' with key := key, val := val })) clock), ?_, grown_set hb _, MapIs.of (heap_setBlock_same hb _) (by simp; omega) (by rw [mod_list h2]; exact hE.set h2 h3) (fun _ _ h => by cases h)⟩
    simp [Instr.mapUpdate, run_underlying ht, MapKept.run_getObj_map hb, K.check w false hkey, h1, hj, h3, K.stays w hkey, MapKept.run_setObj_map _ hb, Result.andThen, setBlock]
/-- 'm[k] = f(m[k])': its first half. -/
theorem MapIs.enter {w : World} {b n : Nat} {M : Value → Option Value} {st : Option (Value × Nat)} {t E : TypeId} {z key : Value} {kl : Lit} (h : MapIs P k w b n M st) (K : Keyed P k) (ht : P.underlying t = some (.map k E)) (hz : (zeroValue E).run P w = .ok z w) (hkey : keyOf P k key = some kl) :
    ∃ (w2 : World) (s : Nat), (Instr.mapEntry t (.map (some b)) key).run P w = .ok (.tuple #[(M key).getD z, goInt s]) w2 ∧ w.grownBy w2 (some b) ∧ MapIs P k w2 b (n + 1) (setV M key (some ((M key).getD z))) (some (key, s)) := by
  obtain ⟨es, clock, hb, hs, hE, _⟩ := h.ents
  rcases K.find w hkey es.toList hE.keys with ⟨h1, h2⟩ | ⟨j, e0, h1, h2, h3⟩
  · have hm : M key = none := by
      cases hm : M key with
      | none => rfl
      | some v =>
        obtain ⟨x, hx, e, _⟩ := (hE.val key v).1 hm
        exact absurd e (h2 x hx)
    rw [hm]
    refine ⟨setBlock w b (.map (es.push ⟨key, z, clock⟩) (clock + 1)), clock, ?_, grown_set hb _, MapIs.of (heap_setBlock_same hb _) (by simp; omega) (by rw [Array.toList_push]; exact hE.push hkey h2) ?_⟩
    · simp [Instr.mapEntry, run_underlying ht, MapKept.run_getObj_map hb, K.check w false hkey, h1, hz, MapKept.run_setObj_map _ hb, Result.andThen, setBlock]
    · intro key' s h
      cases h
      exact ⟨⟨key, z, clock⟩, by simp, rfl, rfl⟩
  · have hj : es[j]? = some e0 := by simpa using h2
    have hm : M key = some e0.val := (hE.val key e0.val).2 ⟨e0, List.mem_of_getElem? h2, h3, rfl⟩
    rw [hm]
    have e1 : es.toList.set j ⟨key, e0.val, e0.born⟩ = (es.modify j (fun e => { e with key := key })).toList := (mod_list h2 (fun e => { e with key := key })).symm
    refine ⟨setBlock w b (.map (es.modify j (fun e => { e with key := key })) clock), e0.born, ?_, grown_set hb _, MapIs.of (heap_setBlock_same hb _) (by simp; omega) (by rw [← e1]; exact hE.set h2 h3) ?_⟩
    · simp [Instr.mapEntry, run_underlying ht, MapKept.run_getObj_map hb, K.check w false hkey, h1, hj, h3, K.stays w hkey, MapKept.run_setObj_map _ hb, Result.andThen, setBlock]
    · intro key' s h
      cases h
      rw [← e1]
      exact ⟨_, List.mem_set (List.getElem?_eq_some_iff.1 h2).1 _, rfl, rfl⟩
/-- .. its second half. -/
theorem MapIs.put {w : World} {b n : Nat} {M : Value → Option Value} {key val : Value} {s : Nat} {t : TypeId} (h : MapIs P k w b n M (some (key, s))) :
    ∃ w2, (Instr.entryStore t (.map (some b)) (goInt s) val).run P w = .ok () w2 ∧ w.grownBy w2 (some b) ∧ MapIs P k w2 b n (setV M key (some val)) none := by
  obtain ⟨es, clock, hb, hs, hE, hst⟩ := h.ents
  obtain ⟨e0, he0, hk0, hb0⟩ := hst key s rfl
  obtain ⟨j, hj, hje⟩ := List.getElem_of_mem he0
  have h2 : es.toList[j]? = some e0 := by rw [List.getElem?_eq_getElem hj, hje]
  have hidx : es.findIdx? (fun e => ((e.born : Nat) : Int) == ((s : Nat) : Int)) = some j := by
    have : es.findIdx? (fun e => ((e.born : Nat) : Int) == ((s : Nat) : Int)) = es.toList.findIdx? (fun e => ((e.born : Nat) : Int) == ((s : Nat) : Int)) := by cases es; simp
    rw [this, List.findIdx?_eq_some_iff_getElem]
    refine ⟨hj, by simp [hje, hb0], fun i hij => ?_⟩
    have hp := List.pairwise_iff_getElem.1 hE.once i j (by have : i < es.toList.length := (by omega); simpa using this) (by simpa using hj) hij
    simp only [List.getElem_map, hje, hb0] at hp
    simp only [beq_iff_eq]
    omega
  have e1 : es.toList.set j ⟨key, val, e0.born⟩ = (es.modify j (fun e => { e with val := val })).toList := by rw [mod_list h2, ← hk0]
  refine ⟨setBlock w b (.map (es.modify j (fun e => { e with val := val })) clock), ?_, grown_set hb _, MapIs.of (heap_setBlock_same hb _) (by simp; omega) (by rw [← e1]; exact hE.set h2 hk0) (fun _ _ h => by cases h)⟩
  simp [Instr.entryStore, MapKept.run_getObj_map hb, asInt, asIntOf, goInt, hidx, MapKept.run_setObj_map _ hb, Result.andThen, setBlock]

/-! ### Rows of numbers -/
def Qv (w : World) (base : Nat) (e : TypeId) (v : Value) (zs : List Int) : Prop :=
  (v = .slice none 0 0 ∧ zs = []) ∨ ∃ g o c cur, v = .slice (some ⟨g, o, none⟩) zs.length c ∧ base ≤ g ∧ w.heap[g]? = some (.cells cur e (0, 0)) ∧ zs.length ≤ c ∧ c ≤ maxLen ∧ o + c ≤ cur.size ∧ ∀ j (h : j < zs.length), cur[o + j]? = some (.int .i64 zs[j])
theorem Qv.lt {w : World} {base : Nat} {e : TypeId} {v : Value} {zs : List Int} (h : Qv w base e v zs) {g : Nat} (hg : v.ownBlock = some g) : base ≤ g ∧ g < w.heap.size := by
  rcases h with ⟨rfl, _⟩ | ⟨g', o, c, cur, rfl, hb, hh, _⟩
  · cases hg
  · cases hg
    exact ⟨hb, (Array.getElem?_eq_some_iff.1 hh).1⟩
theorem Qv.kept {w w' : World} {base : Nat} {e : TypeId} {v : Value} {zs : List Int} {row : Option Nat} (h : Qv w base e v zs) (hg : w.grownBy w' row) (hne : v.ownBlock = none ∨ v.ownBlock ≠ row) : Qv w' base e v zs := by
  rcases h with h | ⟨g, o, c, cur, rfl, hb, hh, r⟩
  · exact .inl h
  · refine .inr ⟨g, o, c, cur, rfl, hb, (hg.block g (Array.getElem?_eq_some_iff.1 hh).1 ?_).trans hh, r⟩
    rcases hne with h | h
    · cases h
    · exact h

/-! ### The map's rows, each its own -/
abbrev Apt (v : Value) (r : Option Nat) : Prop := v.ownBlock = none ∨ v.ownBlock ≠ r
def QsX (P : Program) (k e : TypeId) (w : World) (base b n : Nat) (W : Value → List Int) (no : Option Nat) (ex : Value → Prop) (r : Option Nat) (st : Option (Value × Nat)) : Prop :=
  ∃ M, MapIs P k w b n M st ∧ b < base ∧ (∀ key, ¬ ex key → (M key = none ∧ W key = []) ∨ ∃ v, M key = some v ∧ Qv w base e v (W key) ∧ Apt v no ∧ Apt v r) ∧
    ∀ k1 k2 v1 v2, ¬ ex k1 → ¬ ex k2 → k1 ≠ k2 → M k1 = some v1 → M k2 = some v2 → Apt v1 v2.ownBlock
abbrev Qs (P : Program) (k e : TypeId) (w : World) (base b n : Nat) (W : Value → List Int) (no : Option Nat) : Prop := QsX P k e w base b n W no (fun _ => False) none none
variable {e : TypeId} {w w' : World} {base b n : Nat} {W : Value → List Int} {no : Option Nat} {ex : Value → Prop} {r : Option Nat} {st : Option (Value × Nat)}
theorem Qs.made (w : World) : Qs P k e (w.alloc (.map #[] 0)) (w.heap.size + 1) w.heap.size 0 (fun _ => []) none :=
  ⟨fun _ => none, MapIs.made w, Nat.lt_succ_self _, fun key _ => .inl ⟨rfl, rfl⟩, fun k1 k2 v1 v2 _ _ _ h => by cases h⟩
theorem apt_next {v : Value} {zs : List Int} {no no' : Option Nat} (hv : Qv w base e v zs) (h : Apt v no) (hn : no' = no ∨ ∃ g, no' = some g ∧ w.heap.size ≤ g) : Apt v no' := by
  rcases hn with rfl | ⟨g, rfl, hg⟩
  · exact h
  · cases hb : v.ownBlock with
    | none => exact .inl hb
    | some g' =>
      refine .inr fun e => ?_
      have := (hv.lt hb).2
      rw [hb] at e
      cases e
      omega
theorem QsX.next {row no' r' : Option Nat} (h : QsX P k e w base b n W no ex r st) (hg : w.grownBy w' row) (hrow : row = r ∨ row = no ∨ row = none) (hb : some b ≠ row)
    (hr : r' = r ∨ ∃ g, r' = some g ∧ w.heap.size ≤ g) (hn : no' = no ∨ ∃ g, no' = some g ∧ w.heap.size ≤ g) : QsX P k e w' base b n W no' ex r' st := by
  obtain ⟨M, hM, hbb, h1, h2⟩ := h
  refine ⟨M, hM.kept hg hb, hbb, fun key hk => ?_, h2⟩
  rcases h1 key hk with h | ⟨v, hv, hq, ha, ha'⟩
  · exact .inl h
  · refine .inr ⟨v, hv, hq.kept hg ?_, apt_next hq ha hn, apt_next hq ha' hr⟩
    rcases hrow with rfl | rfl | rfl
    · exact ha'
    · exact ha
    · cases hb : v.ownBlock with
      | none => exact .inl rfl
      | some g => exact .inr (by simp)
/-- A look-up takes one row out. -/
theorem QsX.look {t E : TypeId} {key : Value} {kl : Lit} (h : Qs P k e w base b n W no) (K : Keyed P k) (ht : P.underlying t = some (.map k E)) (hz : (zeroValue E).run P w = .ok (.slice none 0 0) w) (hkey : keyOf P k key = some kl) :
    ∃ v, (Instr.lookup t (.map (some b)) key false).run P w = .ok v w ∧ Qv w base e v (W key) ∧ Apt v no ∧ QsX P k e w base b n W no (fun x => x = key) v.ownBlock none := by
  obtain ⟨M, hM, hbb, h1, h2⟩ := h
  have hl := hM.look K ht hz hkey
  refine ⟨_, hl, ?_, ?_, M, hM, hbb, fun key' hne => ?_, fun k1 k2 v1 v2 hk1 hk2 => h2 k1 k2 v1 v2 (fun h => h) (fun h => h)⟩
  · rcases h1 key (fun h => h) with ⟨e1, e2⟩ | ⟨v, e1, hq, _⟩
    · rw [e1, e2]; exact .inl ⟨rfl, rfl⟩
    · rw [e1]; exact hq
  · rcases h1 key (fun h => h) with ⟨e1, e2⟩ | ⟨v, e1, hq, ha, _⟩
    · rw [e1]; exact .inl rfl
    · rw [e1]; exact ha
  · rcases h1 key' (fun h => h) with h | ⟨v, e1, hq, ha, _⟩
    · exact .inl h
    · refine .inr ⟨v, e1, hq, ha, ?_⟩
      cases hm : M key with
      | none =>
        cases hb : v.ownBlock with
        | none => exact .inl hb
        | some g => exact .inr (by rw [hb]; simp [Value.ownBlock])
      | some u => exact h2 key' key v u (fun h => h) (fun h => h) hne e1 hm
theorem qs_back {w2 : World} {M : Value → Option Value} {key val : Value} {zs : List Int} (hbb : b < base)
    (h1 : ∀ key', ¬ key' = key → (M key' = none ∧ W key' = []) ∨ ∃ v, M key' = some v ∧ Qv w base e v (W key') ∧ Apt v no ∧ Apt v r)
    (h2 : ∀ k1 k2 v1 v2, ¬ k1 = key → ¬ k2 = key → k1 ≠ k2 → M k1 = some v1 → M k2 = some v2 → Apt v1 v2.ownBlock)
    (hg : w.grownBy w2 (some b)) (hM2 : MapIs P k w2 b n (setV M key (some val)) none) (hv : Qv w base e val zs) (hr : val.ownBlock = none ∨ val.ownBlock = r) (ha : Apt val no) : Qs P k e w2 base b n (setV W key zs) no := by
  have keep : ∀ {u : Value} {ys : List Int}, Qv w base e u ys → Qv w2 base e u ys := fun {u ys} hq => hq.kept hg (by
    cases hb : u.ownBlock with
    | none => exact .inl rfl
    | some g =>
      refine .inr fun e1 => ?_
      have := (hq.lt hb).1
      cases e1
      omega)
  have apn : ∀ u : Value, Apt u none := fun u => by
    cases hb : u.ownBlock with
    | none => exact .inl hb
    | some g => exact .inr (by rw [hb]; simp)
  have aptv : ∀ key', ¬ key' = key → ∀ u, M key' = some u → Apt u val.ownBlock ∧ Apt val u.ownBlock := by
    intro key' hne u hu
    have hur : Apt u r := by
      rcases h1 key' hne with ⟨e1, _⟩ | ⟨v, e1, _, _, har⟩
      · rw [e1] at hu; cases hu
      · rw [e1] at hu; cases hu; exact har
    rcases hr with hr | hr
    · exact ⟨by rw [hr]; exact apn u, .inl hr⟩
    · rw [hr]
      refine ⟨hur, ?_⟩
      rcases hur with h | h
      · rw [h]; exact apn val
      · exact .inr (by rw [hr]; exact fun e => h e.symm)
  refine ⟨_, hM2, hbb, fun key' _ => ?_, fun k1 k2 v1 v2 _ _ hne e1 e2 => ?_⟩
  · by_cases hk : key' = key
    · subst hk
      rw [setV_same, setV_same]
      exact .inr ⟨val, rfl, keep hv, ha, apn val⟩
    · rw [setV_other _ _ hk, setV_other _ _ hk]
      rcases h1 key' hk with h | ⟨v, e1, hq, ha', _⟩
      · exact .inl h
      · exact .inr ⟨v, e1, keep hq, ha', apn v⟩
  · by_cases hk1 : k1 = key
    · by_cases hk2 : k2 = key
      · exact absurd (hk1.trans hk2.symm) hne
      · subst hk1
        rw [setV_same] at e1
        rw [setV_other _ _ hk2] at e2
        cases e1
        exact (aptv k2 hk2 v2 e2).2
    · rw [setV_other _ _ hk1] at e1
      by_cases hk2 : k2 = key
      · subst hk2
        rw [setV_same] at e2
        cases e2
        exact (aptv k1 hk1 v1 e1).1
      · rw [setV_other _ _ hk2] at e2
        exact h2 k1 k2 v1 v2 hk1 hk2 hne e1 e2

/-- A store puts it back. -/
theorem QsX.store {t E : TypeId} {key val : Value} {kl : Lit} {zs : List Int} (h : QsX P k e w base b n W no (fun x => x = key) r st) (K : Keyed P k) (ht : P.underlying t = some (.map k E)) (hkey : keyOf P k key = some kl)
    (hv : Qv w base e val zs) (hr : val.ownBlock = none ∨ val.ownBlock = r) (ha : Apt val no) :
    ∃ w2, (Instr.mapUpdate t (.map (some b)) key val).run P w = .ok () w2 ∧ w.grownBy w2 (some b) ∧ Qs P k e w2 base b (n + 1) (setV W key zs) no := by
  obtain ⟨M, hM, hbb, h1, h2⟩ := h
  obtain ⟨w2, hrun, hg, hM2⟩ := hM.store (val := val) K ht hkey
  exact ⟨w2, hrun, hg, qs_back hbb h1 h2 hg hM2 hv hr ha⟩
theorem QsX.put {t : TypeId} {key val : Value} {zs : List Int} {s : Nat} (h : QsX P k e w base b n W no (fun x => x = key) r (some (key, s)))
    (hv : Qv w base e val zs) (hr : val.ownBlock = none ∨ val.ownBlock = r) (ha : Apt val no) :
    ∃ w2, (Instr.entryStore t (.map (some b)) (goInt s) val).run P w = .ok () w2 ∧ w.grownBy w2 (some b) ∧ Qs P k e w2 base b n (setV W key zs) no := by
  obtain ⟨M, hM, hbb, h1, h2⟩ := h
  obtain ⟨w2, hrun, hg, hM2⟩ := hM.put (val := val) (t := t)
  exact ⟨w2, hrun, hg, qs_back hbb h1 h2 hg hM2 hv hr ha⟩
theorem QsX.enter {t E : TypeId} {key : Value} {kl : Lit} (h : Qs P k e w base b n W no) (K : Keyed P k) (ht : P.underlying t = some (.map k E)) (hz : (zeroValue E).run P w = .ok (.slice none 0 0) w) (hkey : keyOf P k key = some kl) :
    ∃ (w2 : World) (v : Value) (s : Nat), (Instr.mapEntry t (.map (some b)) key).run P w = .ok (.tuple #[v, goInt s]) w2 ∧ w.grownBy w2 (some b) ∧ Qv w2 base e v (W key) ∧ Apt v no ∧ QsX P k e w2 base b (n + 1) W no (fun x => x = key) v.ownBlock (some (key, s)) := by
  obtain ⟨v0, hrun0, hv0, ha0, M0, hM0, hbb, h1, h2⟩ := QsX.look h K ht hz hkey
  obtain ⟨M, hM, _, g1, g2⟩ := h
  obtain ⟨w2, s, hrun, hg, hM2⟩ := hM.enter K ht hz hkey
  have keep : ∀ {u : Value} {ys : List Int}, Qv w base e u ys → Qv w2 base e u ys := fun {u ys} hq => hq.kept hg (by
    cases hb : u.ownBlock with
    | none => exact .inl rfl
    | some g =>
      refine .inr fun e1 => ?_
      have := (hq.lt hb).1
      cases e1
      omega)
  have hq : Qv w base e ((M key).getD (.slice none 0 0)) (W key) ∧ Apt ((M key).getD (.slice none 0 0)) no := by
    rcases g1 key (fun h => h) with ⟨e1, e2⟩ | ⟨v, e1, hq, ha, _⟩
    · rw [e1, e2]; exact ⟨.inl ⟨rfl, rfl⟩, .inl rfl⟩
    · rw [e1]; exact ⟨hq, ha⟩
  refine ⟨w2, _, s, hrun, hg, keep hq.1, hq.2, _, hM2, hbb, fun key' hne => ?_, fun k1 k2 v1 v2 hk1 hk2 hne e1 e2 => ?_⟩
  · rw [setV_other _ _ hne]
    rcases g1 key' (fun h => h) with h | ⟨v, e1, hq, ha, _⟩
    · exact .inl h
    · refine .inr ⟨v, e1, keep hq, ha, ?_⟩
      cases hm : M key with
      | none =>
        cases hb : v.ownBlock with
        | none => exact .inl hb
        | some g => exact .inr (by rw [hb]; simp [Value.ownBlock])
      | some u => exact g2 key' key v u (fun h => h) (fun h => h) hne e1 hm
  · rw [setV_other _ _ hk1] at e1
    rw [setV_other _ _ hk2] at e2
    exact g2 k1 k2 v1 v2 (fun h => h) (fun h => h) hne e1 e2

/-! ### What is appended to a row -/
theorem own_q {xs : List Value} {m : Nat} {v : Value} {zs : List Int} (h : w.ownsRow base e 1 v m xs) (hx : xs = zs.map (Value.int .i64)) (hm : m = zs.length) : Qv w base e v zs := by
  subst hm
  rcases h.2 with ⟨rfl, h0⟩ | ⟨g, cap, cur, rfl, hb, hg, hn, hc, hs, ht⟩
  · exact .inl ⟨rfl, List.length_eq_zero_iff.1 h0⟩
  · refine .inr ⟨g, 0, cap, cur, rfl, hb, hg, hn, hc, by omega, fun j hj => ?_⟩
    rw [Nat.zero_add, Nat.mul_one] at *
    have : (cur.toList.take zs.length)[j]? = (zs.map (Value.int .i64))[j]? := by rw [ht, hx]
    rw [List.getElem?_take, if_pos hj, List.getElem?_map, List.getElem?_eq_getElem hj] at this
    simpa using this
theorem run_append_q {v : Value} {zs : List Int} (h : Qv w base e v zs) (t ty : TypeId) (i : TypeInfo) (ht : P.underlying t = some (.slice e)) (hi : P.info? e = some i) (hz : i.zero = some (.int .i64 0)) (hsize : i.size = 1) (hby : i.bytes = 8)
    (H c : Nat) (x : Int) (hH : w.cell? ⟨H, 0, none⟩ = some (.int .i64 x)) (hlen : zs.length < 1000000) (hbase : base ≤ w.heap.size) :
    ∃ v' w', (Builtin.append_ #[t, t] ty #[v, .slice (some ⟨H, 0, none⟩) 1 c]).run P w = .ok v' w' ∧ Qv w' base e v' (zs ++ [x]) ∧ w.grownBy w' v.ownBlock ∧ (v'.ownBlock = v.ownBlock ∨ ∃ g, v'.ownBlock = some g ∧ w.heap.size ≤ g) := by
  have hnews : ∀ j u, [Value.int .i64 x][j]? = some u → w.cell? ((⟨H, 0, none⟩ : Addr).add j) = some u := by
    intro j u hu
    cases j with
    | zero => simp at hu; subst hu; exact hH
    | succ j => simp at hu
  rcases h with ⟨rfl, rfl⟩ | ⟨g, o, cp, cur, rfl, hb, hh, hn, hc, hs, hcell⟩
  · have hr := run_append_own_at (P := P) w base t ty e i _ 1 8 ht hi hz hsize hby rfl (by decide) (.slice none 0 0) 0 [] (World.ownsRow_nil _ _ _ _) ⟨H, 0, none⟩ 1 c [.int .i64 x] rfl hnews (by simp [Value.oneCell']) (by unfold maxLen; omega) (by omega) hbase
    obtain ⟨v', w', hr, ho, hg, _, hl⟩ := hr
    exact ⟨v', w', hr, own_q ho rfl rfl, hg, hl.imp id fun h => ⟨_, h, Nat.le_refl _⟩⟩
  · have hglt : g < w.heap.size := (Array.getElem?_eq_some_iff.1 hh).1
    by_cases hroom : zs.length + 1 ≤ cp
    · have hlt : o + zs.length < cur.size := by omega
      have hcl : ∀ k, w.cell? ⟨g, k, none⟩ = cur[k]? := fun k => by simp [World.cell?, hh]
      have hr := run_append_room_cells (P := P) w t ty e i ht hi g o zs.length cp ⟨H, 0, none⟩ 1 c [.int .i64 x] (by rw [hsize]; rfl) hnews (by simp [Value.oneCell']) hroom
        (by intro j hj; have : j = 0 := (by simpa using hj); subst this; rw [hcl, hsize, Nat.mul_one, Nat.add_zero, Array.getElem?_eq_getElem hlt]; rfl)
        (by intro j hj; simp [World.frozen?, hh])
      rw [hsize, Nat.mul_one] at hr
      have hset : (w.setCells g (o + zs.length) [.int .i64 x]).heap[g]? = some (.cells (cur.setIfInBounds (o + zs.length) (.int .i64 x)) e (0, 0)) := heap_setCell_same w g _ cur e _ hh
      refine ⟨_, _, hr, .inr ⟨g, o, cp, _, by rw [List.length_append]; rfl, hb, hset, by simpa using hroom, hc, by simpa using hs, fun j hj => ?_⟩, ⟨rfl, rfl, rfl, by simp [World.setCells, World.setCell], fun q hq hne => heap_setCell_other w _ q _ (fun e => hne (by rw [e]; rfl))⟩, .inl rfl⟩
      rw [Array.getElem?_setIfInBounds]
      by_cases hjl : j < zs.length
      · rw [if_neg (by omega), List.getElem_append_left hjl]
        exact hcell j hjl
      · have : j = zs.length := by simp at hj; omega
        subst this
        rw [if_pos rfl, if_pos hlt]
        simp
    · have hr := run_append_arg_grows (P := P) w t ty e i _ 1 8 ht hi hz hsize hby rfl (by decide) ⟨g, o, none⟩ zs.length cp (zs.map (Value.int .i64)) (by simp) (by
          intro j u hu
          have hj : j < zs.length := by
            rw [List.getElem?_map] at hu
            cases hq : zs[j]? with
            | none => rw [hq] at hu; cases hu
            | some _ => exact (List.getElem?_eq_some_iff.1 hq).1
          rw [List.getElem?_map, List.getElem?_eq_getElem hj] at hu
          have hadd : (⟨g, o, none⟩ : Addr).add j = ⟨g, o + j, none⟩ := Addr.add_lit ..
          rw [hadd]
          simp only [World.cell?, hh]
          simpa using (hcell j hj).trans hu) ⟨H, 0, none⟩ 1 c [.int .i64 x] rfl hnews (by omega) (by unfold maxLen; omega) (by omega)
      obtain ⟨v', w', hr, ho, hg⟩ := hr
      obtain ⟨g', cap, hv', hge, hgl⟩ := ho.form (by omega)
      have hq := own_q (zs := zs ++ [x]) ho (by simp) (by simp)
      refine ⟨v', w', hr, ?_, ⟨hg.os, hg.tape, hg.output, hg.size, fun q hq _ => hg.block q hq (by simp)⟩, .inr ⟨g', by rw [hv']; rfl, hge⟩⟩
      rcases hq with hq | ⟨a, b', c', d, h1, h2, r⟩
      · exact .inl hq
      · exact .inr ⟨a, b', c', d, h1, Nat.le_trans hbase h2, r⟩
end
end Go.Proofs.Ytgbddcdpbgaojaa
