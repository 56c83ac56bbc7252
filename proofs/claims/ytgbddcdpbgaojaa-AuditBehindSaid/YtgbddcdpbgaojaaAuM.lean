/- Match of the program, walked. It bears no condition. -/
import Derived.Test.YtgbddcdpbgaojaaAuP
import Derived.Test.YtgbddcdpbgaojaaAuR
import Derived.Test.YtgbddcdpbgaojaaAuK
import Derived.WalkKit
import Derived.OwnWalk
import Derived.Maps.OwnOps
import Derived.Carry
import Derived.Deep.RegionLaw
import Derived.Deep.AppendLies
import Derived.StillTailTactics
namespace Go.Proofs.Ytgbddcdpbgaojaa
open Go Go.Maps Go.RowKit
set_option linter.unusedVariables false
set_option linter.unusedSimpArgs false
theorem hide {p : Prop} (h : p) : Hid p := h
def pre (ev : Nat → Ev) (k : Nat) : List Ev := (List.range k).map ev
theorem pre_len (ev : Nat → Ev) (k : Nat) : (pre ev k).length = k := by simp [pre]
theorem pre_succ (ev : Nat → Ev) (k : Nat) : ms (pre ev (k + 1)) = mStep k (ms (pre ev k)) (ev k) := by
  have : pre ev (k + 1) = pre ev k ++ [ev k] := by simp [pre, List.range_succ]
  rw [this, ms_snoc, pre_len]
def cellsO (out : List (Int × Int)) : List Value := out.flatMap fun m => [.int .i64 m.1, .int .i64 m.2]
theorem cellsO_snoc (out : List (Int × Int)) (m : Int × Int) : cellsO (out ++ [m]) = cellsO out ++ [.int .i64 m.1, .int .i64 m.2] := by simp [cellsO]
def bsOf (l : List UInt8) : ByteArray := ⟨l.toArray⟩
theorem bsOf_inj {l m : List UInt8} (h : bsOf l = bsOf m) : l = m := by
  unfold bsOf at h
  injection h with h
  simpa using congrArg Array.toList h
theorem wait_len (l : List Ev) (key : Key) : ((ms l).W key).length ≤ l.length := by
  rw [(good_ms l).wait]
  unfold sel
  rw [List.length_map]
  exact Nat.le_trans (List.length_filter_le _ _) (by simp)
theorem out_len : ∀ l : List Ev, (ms l).out.length ≤ l.length := snoc_ind (Nat.le_refl _) fun l e ih => by
  rw [ms_snoc, (good_step (good_ms l) e).2]
  split <;> simp <;> omega
def WOf (W : Value → List Int) (l : List Ev) : Prop := ∀ h p bs, W (keyV h p (bsOf bs)) = (ms l).W (h, p, bs)
theorem WOf.set {W : Value → List Int} {l l' : List Ev} (h : WOf W l) {ho pe : Int} {bs : List UInt8} {zs : List Int} (h2 : (ms l').W = upd (ms l).W (ho, pe, bs) zs) : WOf (setV W (keyV ho pe (bsOf bs)) zs) l' := by
  intro a b s
  rw [h2]
  by_cases e : ((a, b, s) : Key) = (ho, pe, bs)
  · cases e
    rw [setV_same, upd_same]
  · rw [upd_other _ _ e, setV_other _ _ (fun e' => e ?_)]
    · exact h a b s
    · obtain ⟨rfl, rfl, hs⟩ := keyV_inj e'
      rw [bsOf_inj hs]
structure MInv (w : World) (ev : Nat → Ev) (wr : World) (k : Nat) (v : Value) : Prop where
  q : ∃ N W, Qs Try.prog 61 3 wr (w.heap.size + 1) w.heap.size N W v.ownBlock ∧ WOf W (pre ev k)
  out : wr.ownsRow (w.heap.size + 1) 33 2 v (ms (pre ev k)).out.length (cellsO (ms (pre ev k)).out)
  below : Below w.heap.size w wr
  size : w.heap.size + 1 ≤ wr.heap.size
theorem MInv.start (w : World) (ev : Nat → Ev) : MInv w ev (w.alloc (.map #[] 0)) 0 (.slice none 0 0) where
  q := ⟨0, fun _ => [], Qs.made w, fun _ _ _ => rfl⟩
  out := World.ownsRow_nil _ _ _ _
  below := (Below.refl _ _).alloc (Nat.le_refl _) _
  size := by simp
theorem grow1 (w : World) (a : Obj) : w.grownBy (w.alloc a) none := World.grownBy_alloc w a none
theorem grow2 (w : World) (a b : Obj) : w.grownBy ((w.alloc a).alloc b) none := (World.grownBy_alloc w a none).trans (World.grownBy_alloc _ b none)
theorem grow3 (w : World) (a b c : Obj) : w.grownBy (((w.alloc a).alloc b).alloc c) none := (grow2 w a b).trans (World.grownBy_alloc _ c none)
theorem Qs.go {w w' : World} {base b n : Nat} {W : Value → List Int} {no : Option Nat} (h : Qs Try.prog 61 3 w base b n W no) (hg : w.grownBy w' none) : Qs Try.prog 61 3 w' base b n W no :=
  QsX.next h hg (.inl rfl) (by simp) (.inl rfl) (.inl rfl)
/-- An event's cells. -/
structure EvAt (w : World) (gl o : Nat) (e : Ev) (A : Option Addr) (n c : Nat) : Prop where
  c0 : w.cell? ⟨gl, o, none⟩ = some (.int .i64 e.kind)
  c1 : w.cell? ⟨gl, o + 1, none⟩ = some (.int .u32 e.host)
  c2 : w.cell? ⟨gl, o + 2, none⟩ = some (.int .u32 e.peer)
  c3 : w.cell? ⟨gl, o + 3, none⟩ = some (.int .i64 e.at_)
  c4 : w.cell? ⟨gl, o + 4, none⟩ = some (.slice A n c)
  conv : ∀ W : World, (∀ g, g < w.heap.size → W.heap[g]? = w.heap[g]?) → (convert 52 9 (.slice A n c)).run Try.prog W = .ok (.string (bsOf e.bytes)) W
  host : 0 ≤ e.host ∧ e.host < 4294967296
  peer : 0 ≤ e.peer ∧ e.peer < 4294967296
  len : (bsOf e.bytes).size ≤ maxLen

theorem apn (u : Value) : Apt u none := by
  cases hb : u.ownBlock with
  | none => exact .inl hb
  | some g => exact .inr (by rw [hb]; simp)
theorem apt_sym {u v : Value} (h : Apt u v.ownBlock) : Apt v u.ownBlock := by
  rcases h with h | h
  · rw [h]; exact apn v
  · exact .inr fun e => h e.symm
theorem apt_new {u v : Value} {no : Option Nat} {m : Nat} (h : Apt u no) (hl : v.ownBlock = u.ownBlock ∨ ∃ g, v.ownBlock = some g ∧ m ≤ g) (hno : ∀ g, no = some g → g < m) : Apt v no := by
  rcases hl with hl | ⟨g, hl, hg⟩
  · rcases h with h | h
    · exact .inl (hl.trans h)
    · exact .inr (by rw [hl]; exact h)
  · refine .inr fun e => ?_
    rw [hl] at e
    have := hno g e.symm
    omega
theorem ne_map {w : World} {b base : Nat} {v : Value} (hv : ∀ g, v.ownBlock = some g → base ≤ g) (hb : b < base) : some b ≠ v.ownBlock := fun e => by
  have := hv b e.symm
  omega
theorem ap_map {w : World} {b base : Nat} {v : Value} (hv : ∀ g, v.ownBlock = some g → base ≤ g) (hb : b < base) : Apt v (some b) := by
  cases h : v.ownBlock with
  | none => exact .inl h
  | some g =>
    refine .inr fun e => ?_
    have := hv g h
    rw [h] at e
    cases e
    omega
theorem MInv.ub {w : World} {ev : Nat → Ev} {wr : World} {k : Nat} {v : Value} (h : MInv w ev wr k v) : ∀ g, v.ownBlock = some g → w.heap.size + 1 ≤ g ∧ g < wr.heap.size := fun g hg => h.out.lt g hg
theorem MInv.sent {w : World} {ev : Nat → Ev} {wr w3 w4 w5 w6 : World} {k N : Nat} {u v : Value} {W : Value → List Int} {e : Ev} (h : MInv w ev wr k u) (hW : WOf W (pre ev k)) (he : ev k = e) (hk1 : e.kind = 1) (g3 : wr.grownBy w3 none) (g4 : w3.grownBy w4 (some w.heap.size))
    (hq : Qv w4 (w.heap.size + 1) 3 v (W (keyV e.host e.peer (bsOf e.bytes)))) (ha : Apt v u.ownBlock) (g5 : w4.grownBy w5 v.ownBlock) (g6 : w5.grownBy w6 (some w.heap.size))
    (hQ : Qs Try.prog 61 3 w6 (w.heap.size + 1) w.heap.size N (setV W (keyV e.host e.peer (bsOf e.bytes)) (W (keyV e.host e.peer (bsOf e.bytes)) ++ [(k : Int)])) u.ownBlock) : MInv w ev w6 (k + 1) u where
  q := by
    refine ⟨N, _, hQ, hW.set ?_⟩
    rw [pre_succ, he]
    unfold mStep
    rw [if_pos hk1, hW]
    rfl
  out := by
    have e1 : (ms (pre ev (k + 1))).out = (ms (pre ev k)).out := by
      rw [pre_succ, he]
      unfold mStep
      rw [if_pos hk1]
    rw [e1]
    have m := ap_map (w := w) (fun g hg => (h.ub g hg).1) (Nat.lt_succ_self w.heap.size)
    exact (((h.out.kept g3 (apn u)).kept g4 m).kept g5 (apt_sym ha)).kept g6 m
  below := by
    have s0 := h.size
    have s3 := g3.size
    have s4 := g4.size
    have s5 := g5.size
    exact ((((h.below.grown g3 (by omega) (fun j hj => by cases hj)).grown g4 (by omega) (fun j hj => by cases hj; exact Nat.le_refl _)).grown g5 (by omega) (fun j hj => by have := (hq.lt hj).1; omega)).grown g6 (by omega) (fun j hj => by cases hj; exact Nat.le_refl _))
  size := Nat.le_trans h.size (Nat.le_trans g3.size (Nat.le_trans g4.size (Nat.le_trans g5.size g6.size)))
theorem MInv.miss {w : World} {ev : Nat → Ev} {wr w3 w5 : World} {k N : Nat} {u v : Value} {W : Value → List Int} {e : Ev} (h : MInv w ev wr k u) (hQ : Qs Try.prog 61 3 wr (w.heap.size + 1) w.heap.size N W u.ownBlock) (hW : WOf W (pre ev k)) (he : ev k = e) (hk3 : e.kind = 3)
    (hz : W (keyV e.peer e.host (bsOf e.bytes)) = []) (g3 : wr.grownBy w3 none)
    (ho : w5.ownsRow (w.heap.size + 1) 33 2 v ((ms (pre ev k)).out.length + 1) (cellsO (ms (pre ev k)).out ++ [.int .i64 (k : Int), .int .i64 (-1)])) (g5 : w3.grownBy w5 u.ownBlock) (hl : v.ownBlock = u.ownBlock ∨ v.ownBlock = some w3.heap.size) : MInv w ev w5 (k + 1) v where
  q := by
    refine ⟨N, W, QsX.next (Qs.go hQ g3) g5 (.inr (.inl rfl)) (ne_map (w := w) (fun g hg => (h.ub g hg).1) (Nat.lt_succ_self _)) (.inl rfl) (hl.imp id fun h => ⟨_, h, Nat.le_refl _⟩), ?_⟩
    intro a b s
    rw [hW, pre_succ, he]
    unfold mStep
    have hw : (ms (pre ev k)).W e.t = [] := by rw [← hz, hW]; rfl
    rw [if_neg (by omega), if_pos hk3, if_pos hw]
  out := by
    have hw : (ms (pre ev k)).W e.t = [] := by rw [← hz, hW]; rfl
    have e1 : (ms (pre ev (k + 1))).out = (ms (pre ev k)).out ++ [((k : Int), -1)] := by
      rw [pre_succ, he]
      unfold mStep
      rw [if_neg (by omega), if_pos hk3, if_pos hw]
    rw [e1, cellsO_snoc, List.length_append]
    exact ho
  below := by
    have s0 := h.size
    have s3 := g3.size
    exact (h.below.grown g3 (by omega) (fun j hj => by cases hj)).grown g5 (by omega) (fun j hj => by have := (h.ub j hj).1; omega)
  size := Nat.le_trans h.size (Nat.le_trans g3.size g5.size)
theorem mid3 (w : World) (a c : Obj) (b : Obj) : (((w.alloc a).alloc b).alloc c).heap[w.heap.size + 1]? = some b := by
  have h1 := (MapKept.heap_alloc (w.alloc a) b).1
  have h2 := (MapKept.heap_alloc ((w.alloc a).alloc b) c).2 (w.heap.size + 1) (by simp)
  rw [h2]
  simpa using h1
theorem apt_row {v : Value} {no : Option Nat} {g i q c m m' : Nat} (h : Apt (.slice (some ⟨g, i, none⟩) q c) no) (hl : v.ownBlock = no ∨ v.ownBlock = some m) (hg : g < m') (hm : m' ≤ m) {j q' c' : Nat} : Apt (.slice (some ⟨g, j, none⟩) q' c') v.ownBlock := by
  rcases hl with hl | hl
  · rw [hl]
    rcases h with h | h
    · cases h
    · exact .inr h
  · refine .inr fun e => ?_
    rw [hl] at e
    have : g = m := by simpa [Value.ownBlock] using e
    omega
theorem MInv.hit {w : World} {ev : Nat → Ev} {wr w3 w5 w5' w6 : World} {k N : Nat} {u v : Value} {W : Value → List Int} {e : Ev} {z : Int} {zs : List Int} (h : MInv w ev wr k u) (hW : WOf W (pre ev k)) (he : ev k = e) (hk3 : e.kind = 3)
    (hz : W (keyV e.peer e.host (bsOf e.bytes)) = z :: zs) (g3 : wr.grownBy w3 none)
    (ho : w5.ownsRow (w.heap.size + 1) 33 2 v ((ms (pre ev k)).out.length + 1) (cellsO (ms (pre ev k)).out ++ [.int .i64 (k : Int), .int .i64 z])) (g5 : w3.grownBy w5 u.ownBlock)
    (gw : w5.grownBy w5' none) (g6 : w5'.grownBy w6 (some w.heap.size)) (hQ : Qs Try.prog 61 3 w6 (w.heap.size + 1) w.heap.size N (setV W (keyV e.peer e.host (bsOf e.bytes)) zs) v.ownBlock) : MInv w ev w6 (k + 1) v where
  q := by
    refine ⟨N, _, hQ, hW.set ?_⟩
    have hw : (ms (pre ev k)).W e.t = z :: zs := by rw [← hz, hW]; rfl
    rw [pre_succ, he]
    unfold mStep
    rw [if_neg (by omega), if_pos hk3, if_neg (by rw [hw]; simp), hw]
    rfl
  out := by
    have hw : (ms (pre ev k)).W e.t = z :: zs := by rw [← hz, hW]; rfl
    have e1 : (ms (pre ev (k + 1))).out = (ms (pre ev k)).out ++ [((k : Int), z)] := by
      rw [pre_succ, he]
      unfold mStep
      rw [if_neg (by omega), if_pos hk3, if_neg (by rw [hw]; simp), hw]
      rfl
    rw [e1, cellsO_snoc, List.length_append]
    have m := ap_map (w := w) (fun g hg => (ho.lt g hg).1) (Nat.lt_succ_self w.heap.size)
    exact (World.ownsRow.kept ho gw (apn v)).kept g6 m
  below := by
    have s0 := h.size
    have s3 := g3.size
    have s5 := g5.size
    have sw := gw.size
    exact (((h.below.grown g3 (by omega) (fun j hj => by cases hj)).grown g5 (by omega) (fun j hj => by have := (h.ub j hj).1; omega)).grown gw (by omega) (fun j hj => by cases hj)).grown g6 (by omega) (fun j hj => by cases hj; exact Nat.le_refl _)
  size := Nat.le_trans h.size (Nat.le_trans g3.size (Nat.le_trans g5.size (Nat.le_trans gw.size g6.size)))
theorem MInv.skip {w : World} {ev : Nat → Ev} {wr w3 : World} {k : Nat} {u : Value} {e : Ev} (h : MInv w ev wr k u) (he : ev k = e) (hk1 : ¬ e.kind = 1) (hk3 : ¬ e.kind = 3) (g3 : wr.grownBy w3 none) : MInv w ev w3 (k + 1) u := by
  have e1 : ms (pre ev (k + 1)) = ms (pre ev k) := by
    rw [pre_succ, he]
    unfold mStep
    rw [if_neg hk1, if_neg hk3]
  have s0 := h.size
  obtain ⟨N, W, hQ, hW⟩ := h.q
  refine ⟨⟨N, W, Qs.go hQ g3, fun a b s => by rw [hW, e1]⟩, by rw [e1]; exact h.out.kept g3 (apn u), h.below.grown g3 (by omega) (fun j hj => by cases hj), Nat.le_trans h.size g3.size⟩
theorem new3' (w : World) (a b : Obj) (cs : Array Value) (t : TypeId) : (((w.alloc a).alloc b).alloc (.cells cs t)).heap[w.heap.size + 1 + 1]? = some (.cells cs t (0, 0)) := by
  have := (MapKept.heap_alloc ((w.alloc a).alloc b) (.cells cs t)).1
  simpa using this
theorem new3 (w : World) (a b : Obj) (x : Value) (t : TypeId) : (((w.alloc a).alloc b).alloc (.cells #[x] t)).heap[w.heap.size + 1 + 1]? = some (.cells #[x] t (0, 0)) := by
  have := (MapKept.heap_alloc ((w.alloc a).alloc b) (.cells #[x] t)).1
  simpa using this
theorem cell_of_heap0 {w : World} {g : Nat} {cs : Array Value} {t : TypeId} {x : Value} (h : w.heap[g]? = some (.cells cs t (0, 0))) (hx : cs[0]? = some x) : w.cell? ⟨g, 0, none⟩ = some x := by simp [World.cell?, h, hx]
set_option maxRecDepth 1000000 in
set_option maxHeartbeats 3200000 in
theorem match_any (gl ol n c : Nat) (w : World) (ev : Nat → Ev) (hn : n ≤ 1000) (hgl : gl < w.heap.size) (hc : ∀ k, k < n → ∃ A m c', EvAt w gl (ol + k * 5) (ev k) A m c') :
    Calls Try.prog 11 #[.slice (some ⟨gl, ol, none⟩) n c] w fun e w' => ∃ v, e = .returned v ∧ MInv w ev w' n v := by
  have hmm := @run_makeMap Try.prog
  obtain ⟨i0, hi, hz0, hz1, hz2⟩ := info_parts info3
  obtain ⟨j0, hj, hy0, hy1, hy2⟩ := info_parts info33
  have HC := hide hc
  clear hc
  go_enter Try.func11, Try.ntmps11
  go_wp2
  go_loopw [3, 13] (fun v i wr => ∃ k : Nat, k ≤ n ∧ i = .int .i64 k ∧ Hid (MInv w ev wr k v)) (fun _ i _ => n - (intOf i).toNat)
  case atStart => exact ⟨0, Nat.zero_le _, rfl, MInv.start w ev⟩
  case round =>
    obtain ⟨k, hk, rfl, HR⟩ := hrel
    by_cases hlt : k < n
    · obtain ⟨A0, m0, c0, HE0⟩ := HC.out k hlt
      have HE := hide HE0
      clear HE0
      have hcell : ∀ o, wr.cell? ⟨gl, o, none⟩ = w.cell? ⟨gl, o, none⟩ := fun o => HR.out.below.cell (p := ⟨gl, o, none⟩) hgl
      have e0 := (hcell _).trans HE.out.c0
      have e1 := (hcell _).trans HE.out.c1
      have e2 := (hcell _).trans HE.out.c2
      have e3 := (hcell _).trans HE.out.c3
      have e4 := (hcell _).trans HE.out.c4
      have ecv := HE.out.conv (wr.alloc (.cells #[.int .i64 (ev k).kind, .int .u32 (ev k).host, .int .u32 (ev k).peer, .int .i64 (ev k).at_, .slice A0 m0 c0] 58)) (fun g hg => by
        rw [← HR.out.below.block g hg]
        exact (MapKept.heap_alloc _ _).2 _ (Nat.lt_of_lt_of_le hg (Nat.le_of_succ_le HR.out.size)))
      clear hcell
      obtain ⟨e, he⟩ : ∃ e, ev k = e := ⟨_, rfl⟩
      rw [he] at e0 e1 e2 e3 ecv HE
      by_cases hk1 : e.kind = 1
      · rw [hk1] at e0 ecv
        obtain ⟨kl, hkey⟩ := key61 HE.out.host HE.out.peer HE.out.len
        have HK := hide hkey
        clear hkey
        obtain ⟨N, W, hQ, hW⟩ := HR.out.q
        have HQ := hide hQ
        have HW := hide hW
        have HL : Hid ((W (keyV e.host e.peer (bsOf e.bytes))).length < 1000000) := by
          rw [hW]
          have := wait_len (pre ev k) (e.host, e.peer, e.bytes)
          rw [pre_len] at this
          show _ < _
          omega
        have HS := hide HR.out.size
        clear hQ hW
        go_wp2_with (first
          | (refine wpList_enter rfl _ _ 59 rfl (Qs.go HQ.out (grow3 _ _ _ _)) law61 Try.underlying59 (zero30 _) HK.out rfl rfl ?_; intro w4 v s hg4 hq4 ha4 hX4
             have HH : Hid (w4.heap[wr.heap.size + 1 + 1]? = some (.cells #[.int .i64 (k : Int)] 3 (0, 0))) := (hg4.block _ (by simp) (by have := HS.out; simp; omega)).trans (new3 _ _ _ _ _)
             have HB : Hid (w.heap.size + 1 ≤ w4.heap.size) := Nat.le_trans HS.out (Nat.le_trans (grow3 _ _ _ _).size hg4.size)
             have HG := hide hg4
             have HQ4 := hide hq4
             have HA4 := hide ha4
             have HX4 := hide hX4
             clear hg4 hq4 ha4 hX4)
          | (refine wpList_app rfl _ _ 30 rfl HQ4.out i0 Try.underlying30 hi hz0 hz1 hz2 (wr.heap.size + 1 + 1) 1 (k : Int) (cell_of_heap0 HH.out rfl) HL.out HB.out rfl rfl ?_; intro v5 w5 hq5 hg5 hl5
             have HQ5 := hide hq5
             have HG5 := hide hg5
             have HL5 := hide hl5
             have HX5 := hide (QsX.next HX4.out hg5 (.inl rfl) (ne_map (w := w) (fun g hg => (HQ4.out.lt hg).1) (Nat.lt_succ_self _)) hl5 (.inl rfl))
             clear hq5 hg5 hl5)
          | (refine wpList_put rfl _ _ _ 59 rfl HX5.out HQ5.out (.inr rfl) (apt_new HA4.out HL5.out (fun g hg => Nat.lt_of_lt_of_le (HR.out.ub g hg).2 (Nat.le_trans (grow3 _ _ _ _).size HG.out.size))) rfl rfl rfl ?_; intro w6 hg6 hQ6
             have HI := hide (HR.out.sent HW.out he hk1 (grow3 _ _ _ _) HG.out HQ4.out HA4.out HG5.out hg6 hQ6)
             clear hg6 hQ6)
          | go_in)
        exact ⟨⟨k + 1, by omega, by go_num, HI⟩, by simp [intOf]; omega⟩
      · by_cases hk3 : e.kind = 3
        · rw [hk3] at e0 ecv
          obtain ⟨kl, hkey⟩ := key61 HE.out.peer HE.out.host HE.out.len
          have HK := hide hkey
          clear hkey
          obtain ⟨N, W, hQ, hW⟩ := HR.out.q
          have HQ := hide hQ
          have HW := hide hW
          have HO := hide HR.out.out
          have HN : Hid ((ms (pre ev k)).out.length < 1000000) := by
            have := out_len (pre ev k)
            rw [pre_len] at this
            show _ < _
            omega
          have HS := hide HR.out.size
          clear hQ hW
          by_cases hz : W (keyV e.peer e.host (bsOf e.bytes)) = []
          · have HZ := hide hz
            clear hz
            go_wp2_with (first
              | (refine wpList_look0 rfl _ _ 59 rfl (Qs.go HQ.out (grow2 _ _ _)) law61 Try.underlying59 (zero30 _) HK.out rfl rfl HZ.out ?_; intro A c')
              | (refine wpList_append_own_at _ rfl _ _ 26 rfl (w.heap.size + 1) 33 j0 _ 2 16 Try.underlying26 hj hy0 hy1 hy2 rfl (by decide) _ _ _ rfl (HO.out.kept (grow3 _ _ _ _) (apn _)) ⟨wr.heap.size + 1 + 1, 0, none⟩ 1 1 [.int .i64 (k : Int), .int .i64 (-1)] rfl rfl (World.news_of_block (new3' _ _ _ _ _)) (by simp [Value.oneCell']) (by have := HN.out; unfold maxLen; omega) (by have := HN.out; omega) (Nat.le_trans HS.out (grow3 _ _ _ _).size) ?_; intro v5 w5 hown5 hg5 hnil5 hl5
                 have HI := hide (HR.out.miss HQ.out HW.out he hk3 HZ.out (grow3 _ _ _ _) hown5 hg5 hl5)
                 clear hown5 hg5 hl5 hnil5)
              | go_in)
            exact ⟨⟨k + 1, by omega, by go_num, HI⟩, by simp [intOf]; omega⟩
          · obtain ⟨z, zs, hz'⟩ : ∃ z zs, W (keyV e.peer e.host (bsOf e.bytes)) = z :: zs := by
              cases hw : W (keyV e.peer e.host (bsOf e.bytes)) with
              | nil => exact absurd hw hz
              | cons z zs => exact ⟨z, zs, rfl⟩
            obtain ⟨q, hq⟩ : ∃ q, zs.length = q := ⟨_, rfl⟩
            have HZ := hide hz'
            have HL := hide hq
            have hq0 : ((q : Int) + 1 == 0) = false := by simp; omega
            clear hz hz' hq
            go_wp2_with (first
              | (refine wpList_look1 rfl _ _ 59 rfl (Qs.go HQ.out (grow2 _ _ _)) law61 Try.underlying59 (zero30 _) HK.out rfl rfl HZ.out q HL.out ?_; intro g i cc hcc hcm hcl hqv hap hX
                 have HQV := hide hqv
                 have HAP := hide hap
                 have HX := hide hX
                 clear hqv hap hX)
              | (refine wpList_append_own_at _ rfl _ _ 26 rfl (w.heap.size + 1) 33 j0 _ 2 16 Try.underlying26 hj hy0 hy1 hy2 rfl (by decide) _ _ _ rfl (HO.out.kept (grow3 _ _ _ _) (apn _)) ⟨wr.heap.size + 1 + 1, 0, none⟩ 1 1 [.int .i64 (k : Int), .int .i64 z] rfl rfl (World.news_of_block (new3' _ _ _ _ _)) (by simp [Value.oneCell']) (by have := HN.out; unfold maxLen; omega) (by have := HN.out; omega) (Nat.le_trans HS.out (grow3 _ _ _ _).size) ?_; intro v5 w5 hown5 hg5 hnil5 hl5
                 have HO5 := hide hown5
                 have HG5 := hide hg5
                 have HL5 := hide hl5
                 clear hown5 hg5 hl5 hnil5)
              | go_in)
            have hb5 : w5.heap[wr.heap.size + 1]? = some (.cells #[.int .u32 e.peer, .int .u32 e.host, .string (bsOf e.bytes)] 61 (0, 0)) :=
              (HG5.out.block _ (by simp) (fun e' => by have := (HR.out.ub _ e'.symm).2; omega)).trans (mid3 _ _ _ _)
            have d0 : w5.cell? ⟨wr.heap.size + 1, 0, none⟩ = some (.int .u32 e.peer) := by simp [World.cell?, hb5]
            have d1 : w5.cell? ⟨wr.heap.size + 1, 1, none⟩ = some (.int .u32 e.host) := by simp [World.cell?, hb5]
            have d2 : w5.cell? ⟨wr.heap.size + 1, 2, none⟩ = some (.string (bsOf e.bytes)) := by simp [World.cell?, hb5]
            clear hb5 hcl
            have hq1 : (1 : Int) ≤ (q : Int) + 1 := by omega
            have gw : w5.grownBy w5.drew none := ⟨rfl, rfl, rfl, Nat.le_refl _, fun _ _ _ => rfl⟩
            have HX5 := hide ((QsX.next (QsX.next HX.out (World.grownBy_alloc _ _ none) (.inr (.inr rfl)) (by simp) (.inl rfl) (.inl rfl)) HG5.out (.inr (.inl rfl)) (ne_map (w := w) (fun g hg => (HR.out.ub g hg).1) (Nat.lt_succ_self _)) (.inl rfl) (HL5.out.imp id fun h => ⟨_, h, Nat.le_refl _⟩)).next gw (.inr (.inr rfl)) (by simp) (.inl rfl) (.inl rfl))
            have HV5 := hide (((HQV.out.kept (World.grownBy_alloc _ _ none) (apn _)).kept HG5.out HAP.out).kept gw (apn _))
            have HA5 : Hid (∀ j q' c', Apt (.slice (some ⟨g, j, none⟩) q' c') v5.ownBlock) := fun j q' c' => apt_row HAP.out HL5.out (HQV.out.lt rfl).2 (by simp)
            have GW := hide gw
            clear gw
            have fin : ∀ (val : Value), Qv w5.drew (w.heap.size + 1) 3 val zs → val.ownBlock = some g → Apt val v5.ownBlock → ∀ w6, w5.drew.grownBy w6 (some w.heap.size) → Qs Try.prog 61 3 w6 (w.heap.size + 1) w.heap.size (N + 1) (setV W (keyV e.peer e.host (bsOf e.bytes)) zs) v5.ownBlock → Hid (MInv w ev w6 (k + 1) v5) :=
              fun val _ _ _ w6 hg6 hQ6 => HR.out.hit HW.out he hk3 HZ.out (grow3 _ _ _ _) HO5.out HG5.out GW.out hg6 hQ6
            have FIN := hide fin
            clear fin
            by_cases hc1 : cc = 1
            · have hq00 : q = 0 := by omega
              subst hq00 hc1
              have hzs : zs = [] := List.length_eq_zero_iff.1 HL.out
              have HT : Hid (Qv w5.drew (w.heap.size + 1) 3 (.slice (some ⟨g, i, none⟩) 0 0) zs) := by
                have := HV5.out
                rw [hzs] at this ⊢
                exact this.last
              clear hzs
              go_still_tail 4, (by kernel_rfl)
              change wpList _ _ _ _ _ w5.drew
              refine wpList_store rfl _ _ _ 59 rfl HX5.out law61 Try.underlying59 HK.out HT.out (.inr rfl) (HA5.out _ _ _) rfl rfl rfl ?_
              intro w6 hg6 hQ6
              have HI := FIN.out _ HT.out rfl (HA5.out _ _ _) w6 hg6 hQ6
              clear hg6 hQ6
              go_wp2
              exact ⟨⟨k + 1, by omega, by go_num, HI⟩, by simp [intOf]; omega⟩
            · have HT : Hid (Qv w5.drew (w.heap.size + 1) 3 (.slice (some ⟨g, i + 1, none⟩) q (cc - 1)) zs) := by
                have := HV5.out.tail
                rw [HL.out] at this
                exact this
              go_still_tail 4, (by kernel_rfl)
              change wpList _ _ _ _ _ w5.drew
              refine wpList_store rfl _ _ _ 59 rfl HX5.out law61 Try.underlying59 HK.out HT.out (.inr rfl) (HA5.out _ _ _) rfl rfl rfl ?_
              intro w6 hg6 hQ6
              have HI := FIN.out _ HT.out rfl (HA5.out _ _ _) w6 hg6 hQ6
              clear hg6 hQ6
              go_wp2
              exact ⟨⟨k + 1, by omega, by go_num, HI⟩, by simp [intOf]; omega⟩
        · have e1' : (e.kind == 1) = false := by simpa using hk1
          have e3' : (e.kind == 3) = false := by simpa using hk3
          have HI := hide (HR.out.skip he hk1 hk3 (grow1 wr (.cells #[.int .i64 e.kind, .int .u32 e.host, .int .u32 e.peer, .int .i64 e.at_, .slice A0 m0 c0] 58)))
          go_wp2
          exact ⟨⟨k + 1, by omega, by go_num, HI⟩, by simp [intOf]; omega⟩
    · have hkn : k = n := by omega
      subst hkn
      go_wp2
      go_ret
      exact ⟨_, rfl, HR.out⟩
set_option maxRecDepth 1000000 in
theorem match_none (a : Option Addr) (c : Nat) (w : World) (ev : Nat → Ev) :
    Calls Try.prog 11 #[.slice a 0 c] w fun e w' => ∃ v, e = .returned v ∧ MInv w ev w' 0 v := by
  have hmm := @run_makeMap Try.prog
  go_enter Try.func11, Try.ntmps11
  go_wp2
  refine wp_loop_rounds 1 ?_
  rw [rounds_succ]
  go_wp2
  go_ret
  exact ⟨_, rfl, MInv.start w ev⟩
end Go.Proofs.Ytgbddcdpbgaojaa
