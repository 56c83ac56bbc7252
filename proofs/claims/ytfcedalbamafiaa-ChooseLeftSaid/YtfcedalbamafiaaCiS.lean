/- Clusters, in plain words: what is struck, and what is left. It bears no condition. -/
import Derived.Test.YtfcedalbamafiaaChE
namespace Go.Proofs.Ytfcedalbamafiaa
open Go Go.Im
set_option linter.unusedVariables false
set_option linter.unusedSimpArgs false

def ifold {X V : Type} (f : Nat → X → V → X) : Nat → X → List V → X
  | _, x, [] => x
  | i, x, v :: vs => ifold f (i + 1) (f i x v) vs
theorem foldE_if {X Y V : Type} (f : Nat → X → V → X) : ∀ (l : List V) (i : Nat) (x : X), foldE (fun i x v => (Sum.inl (f i x v) : X ⊕ Y)) i x l = .inl (ifold f i x l)
  | [], _, _ => rfl
  | v :: l, i, x => by
    show foldE _ (i + 1) (f i x v) l = _
    rw [foldE_if f l]
    rfl
def nthI (zs : List Int) (i : Int) : Int := zs.getD i.toNat 0
def absd (a b : Int) : Int := if a - b < 0 then -(a - b) else a - b
theorem absd_nonneg (a b : Int) : 0 ≤ absd a b := by unfold absd; split <;> omega
def worS (zs : List Int) (i : Int) (s k : Int) : Int := s + absd (nthI zs i) (nthI zs k)
def wor (zs l : List Int) (i : Int) : Int := l.foldl (worS zs i) 0
theorem wor_ge (zs : List Int) (i : Int) : ∀ (l : List Int) (s : Int), s ≤ l.foldl (worS zs i) s
  | [], s => Int.le_refl _
  | k :: l, s => by
    have h := wor_ge zs i l (worS zs i s k)
    have h2 := absd_nonneg (nthI zs i) (nthI zs k)
    rw [List.foldl_cons]
    unfold worS at *
    omega
theorem wor_nonneg (zs l : List Int) (i : Int) : 0 ≤ wor zs l i := wor_ge zs i l 0
theorem wor_le (zs : List Int) (i : Int) {B : Int} (h : ∀ k, absd (nthI zs i) (nthI zs k) ≤ B) : ∀ (l : List Int) (s : Int), l.foldl (worS zs i) s ≤ s + l.length * B
  | [], s => by simp
  | k :: l, s => by
    have h1 := wor_le zs i h l (worS zs i s k)
    have h2 := h k
    rw [List.foldl_cons]
    unfold worS at *
    rw [show (((k :: l).length : Nat) : Int) * B = l.length * B + B by rw [List.length_cons, Int.natCast_succ, Int.add_mul, Int.one_mul]]
    omega
def grS (zs l : List Int) (i : Nat) (s : Int × Int) (x : Int) : Int × Int := if wor zs l x ≥ s.2 then ((i : Int), wor zs l x) else s
def gr (zs l : List Int) : Int × Int := ifold (grS zs l) 0 (-1, -1) l
def nrS (ds : List Int) (c k : Int) : Int := if nthI ds k < c then nthI ds k else c
def nr (ds l : List Int) : Int := l.foldl (nrS ds) 1099511627776
def rfS (zs ds l : List Int) (i : Nat) (s : Int × Int) (x : Int) : Int × Int := (if wor zs l x ≥ wor zs l (nthI l s.1) then (i : Int) else s.1, nrS ds s.2 x)
def rf (zs ds l : List Int) : Int × Int := ifold (rfS zs ds l) 1 (0, nthI ds (nthI l 0)) l.tail
theorem nthI_at (pre : List Int) (x : Int) (t : List Int) : nthI (pre ++ x :: t) ((pre.length : Nat) : Int) = x := by
  unfold nthI
  rw [List.getD_eq_getElem?_getD, Int.toNat_natCast, List.getElem?_append_right (Nat.le_refl _)]
  simp
theorem grx_rf (zs ds l : List Int) : ∀ (t pre : List Int) (a c : Int), l = pre ++ t → (ifold (grS zs l) pre.length (a, wor zs l (nthI l a)) t) =
    ((ifold (rfS zs ds l) pre.length (a, c) t).1, wor zs l (nthI l (ifold (rfS zs ds l) pre.length (a, c) t).1)) ∧ (ifold (rfS zs ds l) pre.length (a, c) t).2 = t.foldl (nrS ds) c
  | [], pre, a, c, h => ⟨rfl, rfl⟩
  | x :: t, pre, a, c, h => by
    have hx : nthI l ((pre.length : Nat) : Int) = x := by rw [h]; exact nthI_at pre x t
    have ih := fun a c => grx_rf zs ds l t (pre ++ [x]) a c (by rw [h]; simp)
    simp only [List.length_append, List.length_cons, List.length_nil, Nat.zero_add] at ih
    show (ifold (grS zs l) (pre.length + 1) (grS zs l pre.length (a, wor zs l (nthI l a)) x) t) = ((ifold (rfS zs ds l) (pre.length + 1) (rfS zs ds l pre.length (a, c) x) t).1, wor zs l (nthI l (ifold (rfS zs ds l) (pre.length + 1) (rfS zs ds l pre.length (a, c) x) t).1)) ∧
      (ifold (rfS zs ds l) (pre.length + 1) (rfS zs ds l pre.length (a, c) x) t).2 = List.foldl (nrS ds) (nrS ds c x) t
    simp only [grS, rfS]
    by_cases hw : wor zs l x ≥ wor zs l (nthI l a)
    · rw [if_pos hw, if_pos hw]
      have := ih (pre.length : Int) (nrS ds c x)
      rw [hx] at this
      exact this
    · rw [if_neg hw, if_neg hw]
      exact ih a (nrS ds c x)
/-- The program's greatest one and nearest distance are the document's. -/
theorem gr_eq {zs ds l : List Int} (hl : l ≠ []) (hd : ∀ k, nthI ds k ≤ 1099511627776) : gr zs l = ((rf zs ds l).1, wor zs l (nthI l (rf zs ds l).1)) ∧ nr ds l = (rf zs ds l).2 := by
  cases l with
  | nil => exact absurd rfl hl
  | cons x t =>
    have h := grx_rf zs ds (x :: t) t [x] 0 (nthI ds x) rfl
    have h0 : nthI (x :: t) 0 = x := rfl
    have hw := wor_nonneg zs (x :: t) x
    simp only [List.length_cons, List.length_nil, Nat.zero_add] at h
    rw [h0] at h
    constructor
    · unfold gr rf
      show ifold (grS zs (x :: t)) 1 (grS zs (x :: t) 0 (-1, -1) x) t = _
      rw [show grS zs (x :: t) 0 (-1, -1) x = (0, wor zs (x :: t) x) by unfold grS; rw [if_pos (show wor zs (x :: t) x ≥ (-1 : Int) by omega)]; rfl]
      rw [h.1]; rfl
    · unfold nr rf
      rw [List.foldl_cons]
      show _ = (ifold (rfS zs ds (x :: t)) 1 (0, nthI ds x) t).2
      rw [h.2]
      congr 1
      have := hd x
      unfold nrS
      split <;> omega
theorem rfx_lt (zs ds l : List Int) : ∀ (t : List Int) (i : Nat) (s : Int × Int), 0 ≤ s.1 → s.1 < (i : Int) + t.length → 0 ≤ (ifold (rfS zs ds l) i s t).1 ∧ (ifold (rfS zs ds l) i s t).1 < (i : Int) + t.length
  | [], i, s, h0, h1 => ⟨h0, h1⟩
  | x :: t, i, s, h0, h1 => by
    have ih := rfx_lt zs ds l t (i + 1) (rfS zs ds l i s x) (by simp only [rfS]; split <;> omega) (by simp only [List.length_cons] at h1; simp only [rfS]; split <;> omega)
    refine ⟨ih.1, ?_⟩
    have := ih.2
    simp only [List.length_cons]
    show (ifold (rfS zs ds l) (i + 1) (rfS zs ds l i s x) t).1 < _
    omega
theorem rfx_in {zs ds l : List Int} (hl : l ≠ []) : 0 ≤ (rf zs ds l).1 ∧ (rf zs ds l).1 < (l.length : Int) := by
  cases l with
  | nil => exact absurd rfl hl
  | cons x t =>
    have := rfx_lt zs ds (x :: t) t 1 (0, nthI ds (nthI (x :: t) 0)) (Int.le_refl _) (by simp only []; omega)
    refine ⟨this.1, ?_⟩
    have := this.2
    simp only [List.length_cons]
    unfold rf
    simp only [List.tail_cons]
    omega
def cut (l : List Int) (i : Int) : List Int := l.take i.toNat ++ l.drop (i.toNat + 1)
theorem cut_len {l : List Int} {i : Int} (h0 : 0 ≤ i) (h1 : i < (l.length : Int)) : (cut l i).length = l.length - 1 := by
  unfold cut
  simp
  omega
theorem cut_sub (l : List Int) (i : Int) : (cut l i).Sublist l := by
  unfold cut
  have := List.Sublist.append (List.Sublist.refl (l.take i.toNat)) (List.drop_sublist_drop_left l (Nat.le_succ i.toNat))
  rwa [List.take_append_drop] at this
def stopB (zs ds l : List Int) : Bool := decide ((gr zs l).2 ≤ nr ds l * ((l.length : Int) - 1))
def clu (zs ds : List Int) (least : Int) : Nat → List Int → List Int
  | 0, l => l
  | n + 1, l => if (l.length : Int) > least then (if stopB zs ds l = true then l else clu zs ds least n (cut l (gr zs l).1)) else l
def rng (n : Nat) : List Int := (List.range n).map fun (i : Nat) => (i : Int)
theorem rng_len (n : Nat) : (rng n).length = n := by simp [rng]
theorem rng_succ (n : Nat) : rng (n + 1) = rng n ++ [(n : Int)] := by simp [rng, List.range_succ]
theorem rng_mem {n : Nat} {k : Int} (h : k ∈ rng n) : 0 ≤ k ∧ k < (n : Int) := by
  simp only [rng, List.mem_map, List.mem_range] at h
  obtain ⟨i, h1, rfl⟩ := h
  omega
theorem rng_lt (n : Nat) : (rng n).Pairwise (· < ·) := by
  unfold rng
  rw [List.pairwise_map]
  exact List.pairwise_lt_range.imp fun h => by omega
theorem clu_sub (zs ds : List Int) (least : Int) : ∀ (n : Nat) (l : List Int), (clu zs ds least n l).Sublist l
  | 0, l => List.Sublist.refl _
  | n + 1, l => by
    unfold clu
    split
    · split
      · exact List.Sublist.refl _
      · exact (clu_sub zs ds least n _).trans (cut_sub l _)
    · exact List.Sublist.refl _
theorem clu_len {zs ds : List Int} (hd : ∀ k, nthI ds k ≤ 1099511627776) {least : Int} (h1 : 1 ≤ least) : ∀ (n : Nat) (l : List Int), least ≤ (l.length : Int) → least ≤ ((clu zs ds least n l).length : Int)
  | 0, l, h => h
  | n + 1, l, h => by
    unfold clu
    split
    · split
      · exact h
      · rename_i hg _
        have hne : l ≠ [] := by rintro rfl; simp at h; omega
        obtain ⟨g1, _⟩ := gr_eq (zs := zs) hne hd
        have hi := rfx_in (zs := zs) (ds := ds) hne
        rw [g1]
        exact clu_len hd h1 n _ (by simp only [cut_len hi.1 hi.2]; omega)
    · exact h
theorem clu_all {zs ds : List Int} {least : Int} {l : List Int} (h : (l.length : Int) ≤ least) (n : Nat) : clu zs ds least n l = l := by
  cases n with
  | zero => rfl
  | succ n => unfold clu; rw [if_neg (by omega)]
theorem nthI_neg (zs : List Int) (i : Int) : nthI (zs.map (- ·)) i = - nthI zs i := by
  unfold nthI
  rw [List.getD_eq_getElem?_getD, List.getD_eq_getElem?_getD, List.getElem?_map]
  cases zs[i.toNat]? <;> simp
theorem absd_neg (a b : Int) : absd (-a) (-b) = absd a b := by unfold absd; split <;> split <;> omega
theorem wor_neg (zs l : List Int) (i : Int) : wor (zs.map (- ·)) l i = wor zs l i := by
  unfold wor
  congr 1
  funext s k
  unfold worS
  rw [nthI_neg, nthI_neg, absd_neg]
theorem gr_neg (zs l : List Int) : gr (zs.map (- ·)) l = gr zs l := by
  unfold gr
  congr 1
  funext i s x
  unfold grS
  rw [wor_neg]
theorem clu_neg (zs ds : List Int) (least : Int) : ∀ (n : Nat) (l : List Int), clu (zs.map (- ·)) ds least n l = clu zs ds least n l
  | 0, l => rfl
  | n + 1, l => by
    unfold clu stopB
    rw [gr_neg, clu_neg]
end Go.Proofs.Ytfcedalbamafiaa
