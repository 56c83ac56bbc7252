/- The laws of a map of rows, at the operations of a walk. It bears no condition. -/
import Derived.Test.YtgbddcdpbgaojaaAuQ
import Derived.WalkKit
import Derived.OwnWalk
import Derived.Deep.RegionLaw
namespace Go.Proofs.Ytgbddcdpbgaojaa
open Go Go.Maps Go.MapKept
set_option linter.unusedVariables false
set_option linter.unusedSimpArgs false
section
variable {P : Program} {k e : TypeId} {w : World} {base b n : Nat} {W : Value → List Int} {no r : Option Nat} {st : Option (Value × Nat)}
theorem Qv.form {v : Value} {zs : List Int} (h : Qv w base e v zs) : ∃ A c, v = .slice A zs.length c ∧ zs.length ≤ c := by
  rcases h with ⟨rfl, rfl⟩ | ⟨g, o, c, cur, rfl, _, _, h, _⟩
  · exact ⟨_, _, rfl, Nat.le_refl _⟩
  · exact ⟨_, _, rfl, h⟩
theorem wpList_look {ops : Array Oper} {rest : List Oper} {o : Oper} {a : Act} {Q : Exit → Act → World → Prop} (hgd : o.guard = none) (m x : Operand) (t : TypeId) (hop : o.op = Op.lookup t m x false)
    {E : TypeId} {key : Value} {kl : Lit} (h : Qs P k e w base b n W no) (K : Keyed P k) (ht : P.underlying t = some (.map k E)) (hz : (zeroValue E).run P w = .ok (.slice none 0 0) w) (hkey : keyOf P k key = some kl)
    (hm : a.eval m = .map (some b)) (hx : a.eval x = key)
    (hK : ∀ A c, Qv w base e (.slice A (W key).length c) (W key) → Apt (.slice A (W key).length c) no → QsX P k e w base b n W no (fun x => x = key) (Value.ownBlock (.slice A (W key).length c)) none → wpList P ops Q rest (a.put o.dst (.slice A (W key).length c)) w) :
    wpList P ops Q (o :: rest) a w := by
  refine wpList_plain hgd fun K' hK' => ?_
  obtain ⟨v, hrun, hq, ha, hX⟩ := QsX.look h K ht hz hkey
  obtain ⟨A, c, rfl, _⟩ := hq.form
  unfold Oper.wp
  simp [execOp, hop, hm, hx, hrun, Result.andThen]
  exact hK' _ _ (hK A c hq ha hX)
theorem Qv.tail {g o c : Nat} {z : Int} {zs : List Int} (h : Qv w base e (.slice (some ⟨g, o, none⟩) (zs.length + 1) c) (z :: zs)) : Qv w base e (.slice (some ⟨g, o + 1, none⟩) zs.length (c - 1)) zs := by
  rcases h with ⟨h, _⟩ | ⟨g', o', c', cur, hv, hb, hh, hn, hc, hs, hcell⟩
  · cases h
  · simp only [Value.slice.injEq, Option.some.injEq, Addr.mk.injEq, List.length_cons] at hv
    obtain ⟨⟨rfl, rfl, _⟩, _, rfl⟩ := hv
    simp only [List.length_cons] at hn hcell
    refine .inr ⟨g, o + 1, c - 1, cur, rfl, hb, hh, by omega, by omega, by omega, fun j hj => ?_⟩
    rw [Nat.add_assoc, Nat.add_comm 1 j]
    exact hcell (j + 1) (by omega)
theorem Qv.last {g o c : Nat} {z : Int} (h : Qv w base e (.slice (some ⟨g, o, none⟩) 1 c) [z]) : Qv w base e (.slice (some ⟨g, o, none⟩) 0 0) [] := by
  rcases h with ⟨h, _⟩ | ⟨g', o', c', cur, hv, hb, hh, hn, hc, hs, hcell⟩
  · cases h
  · simp only [Value.slice.injEq, Option.some.injEq, Addr.mk.injEq, List.length_cons] at hv
    obtain ⟨⟨rfl, rfl, _⟩, _, rfl⟩ := hv
    exact .inr ⟨g, o, 0, cur, rfl, hb, hh, by simp, by omega, by omega, fun j hj => by simp at hj⟩
theorem wpList_look0 {ops : Array Oper} {rest : List Oper} {o : Oper} {a : Act} {Q : Exit → Act → World → Prop} (hgd : o.guard = none) (m x : Operand) (t : TypeId) (hop : o.op = Op.lookup t m x false)
    {E : TypeId} {key : Value} {kl : Lit} (h : Qs P k e w base b n W no) (K : Keyed P k) (ht : P.underlying t = some (.map k E)) (hz : (zeroValue E).run P w = .ok (.slice none 0 0) w) (hkey : keyOf P k key = some kl)
    (hm : a.eval m = .map (some b)) (hx : a.eval x = key) (hW : W key = [])
    (hK : ∀ A c, wpList P ops Q rest (a.put o.dst (.slice A 0 c)) w) :
    wpList P ops Q (o :: rest) a w :=
  wpList_look hgd m x t hop h K ht hz hkey hm hx fun A c _ _ _ => by rw [hW]; exact hK A c
theorem wpList_look1 {ops : Array Oper} {rest : List Oper} {o : Oper} {a : Act} {Q : Exit → Act → World → Prop} (hgd : o.guard = none) (m x : Operand) (t : TypeId) (hop : o.op = Op.lookup t m x false)
    {E : TypeId} {key : Value} {kl : Lit} (h : Qs P k e w base b n W no) (K : Keyed P k) (ht : P.underlying t = some (.map k E)) (hz : (zeroValue E).run P w = .ok (.slice none 0 0) w) (hkey : keyOf P k key = some kl)
    (hm : a.eval m = .map (some b)) (hx : a.eval x = key) {z : Int} {zs : List Int} (hW : W key = z :: zs) (q : Nat) (hq : zs.length = q)
    (hK : ∀ g i c, q + 1 ≤ c → c ≤ maxLen → w.cell? ⟨g, i, none⟩ = some (.int .i64 z) → Qv w base e (.slice (some ⟨g, i, none⟩) (zs.length + 1) c) (z :: zs) → Apt (.slice (some ⟨g, i, none⟩) (zs.length + 1) c) no →
      QsX P k e w base b n W no (fun x => x = key) (some g) none → wpList P ops Q rest (a.put o.dst (.slice (some ⟨g, i, none⟩) (q + 1) c)) w) :
    wpList P ops Q (o :: rest) a w := by
  subst hq
  refine wpList_look hgd m x t hop h K ht hz hkey hm hx fun A c hq ha hX => ?_
  rw [hW] at hq ha hX ⊢
  rcases hq with ⟨h, h'⟩ | ⟨g, i, c', cur, hv, hb, hh, hn, hc, hs, hcell⟩
  · cases h'
  · simp only [Value.slice.injEq] at hv
    obtain ⟨rfl, _, rfl⟩ := hv
    have h0 := hcell 0 (by simp)
    exact hK g i c hn hc (by simpa [World.cell?, hh] using h0) (.inr ⟨g, i, c, cur, rfl, hb, hh, hn, hc, hs, hcell⟩) ha hX
theorem wpList_enter {ops : Array Oper} {rest : List Oper} {o : Oper} {a : Act} {Q : Exit → Act → World → Prop} (hgd : o.guard = none) (m x : Operand) (t : TypeId) (hop : o.op = Op.mapEntry t m x)
    {E : TypeId} {key : Value} {kl : Lit} (h : Qs P k e w base b n W no) (K : Keyed P k) (ht : P.underlying t = some (.map k E)) (hz : (zeroValue E).run P w = .ok (.slice none 0 0) w) (hkey : keyOf P k key = some kl)
    (hm : a.eval m = .map (some b)) (hx : a.eval x = key)
    (hK : ∀ w2 v s, w.grownBy w2 (some b) → Qv w2 base e v (W key) → Apt v no → QsX P k e w2 base b (n + 1) W no (fun x => x = key) v.ownBlock (some (key, s)) → wpList P ops Q rest (a.put o.dst (.tuple #[v, .int .i64 (s : Nat)])) w2) :
    wpList P ops Q (o :: rest) a w := by
  refine wpList_plain hgd fun K' hK' => ?_
  obtain ⟨w2, v, s, hrun, hg, hq, ha, hX⟩ := QsX.enter h K ht hz hkey
  unfold Oper.wp
  simp [execOp, hop, hm, hx, hrun, Result.andThen]
  exact hK' _ _ (hK w2 v s hg hq ha hX)
theorem wpList_put {ops : Array Oper} {rest : List Oper} {o : Oper} {a : Act} {Q : Exit → Act → World → Prop} (hgd : o.guard = none) (m x y : Operand) (t : TypeId) (hop : o.op = Op.entryStore t m x y)
    {key val : Value} {zs : List Int} {s : Nat} (h : QsX P k e w base b n W no (fun x => x = key) r (some (key, s))) (hv : Qv w base e val zs) (hr : val.ownBlock = none ∨ val.ownBlock = r) (ha : Apt val no)
    (hm : a.eval m = .map (some b)) (hx : a.eval x = .int .i64 (s : Nat)) (hy : a.eval y = val)
    (hK : ∀ w2, w.grownBy w2 (some b) → Qs P k e w2 base b n (setV W key zs) no → wpList P ops Q rest (a.put o.dst undef) w2) :
    wpList P ops Q (o :: rest) a w := by
  refine wpList_plain hgd fun K' hK' => ?_
  obtain ⟨w2, hrun, hg, hX⟩ := h.put (t := t) hv hr ha
  have hrun' : (Instr.entryStore t (.map (some b)) (.int .i64 (s : Nat)) val).run P w = .ok () w2 := hrun
  unfold Oper.wp
  simp [execOp, hop, hm, hx, hy, hrun', Result.andThen]
  exact hK' _ _ (hK w2 hg hX)
theorem wpList_app {ops : Array Oper} {rest : List Oper} {o : Oper} {a : Act} {Q : Exit → Act → World → Prop} (hgd : o.guard = none) (s x : Operand) (t : TypeId) (ho : o.op = .call { callee := .builtin .append, args := #[s, x], argTypes := #[t, t] })
    {v : Value} {zs : List Int} (h : Qv w base e v zs) (i : TypeInfo) (ht : P.underlying t = some (.slice e)) (hi : P.info? e = some i) (hz : i.zero = some (.int .i64 0)) (hsize : i.size = 1) (hby : i.bytes = 8)
    (H c : Nat) (z : Int) (hH : w.cell? ⟨H, 0, none⟩ = some (.int .i64 z)) (hlen : zs.length < 1000000) (hbase : base ≤ w.heap.size)
    (hs : a.eval s = v) (hx : a.eval x = .slice (some ⟨H, 0, none⟩) 1 c)
    (hK : ∀ v' w', Qv w' base e v' (zs ++ [z]) → w.grownBy w' v.ownBlock → (v'.ownBlock = v.ownBlock ∨ ∃ g, v'.ownBlock = some g ∧ w.heap.size ≤ g) → wpList P ops Q rest (a.put o.dst v') w') :
    wpList P ops Q (o :: rest) a w := by
  refine wpList_plain hgd fun K' hK' => ?_
  obtain ⟨v', w', hr, h1, h2, h3⟩ := run_append_q h t o.type i ht hi hz hsize hby H c z hH hlen hbase
  unfold Oper.wp execOp
  simp only [ho, resolve, invoke, builtin, Sem.run_bind, Sem.run_pure, Result.andThen_ok, List.map_toArray, List.map_cons, List.map_nil, hs, hx, hr]
  exact hK' _ _ (hK v' w' h1 h2 h3)
theorem wp_store {o : Oper} {a : Act} {K' : Act → World → Prop} {Q : Exit → Act → World → Prop} (m x y : Operand) (t : TypeId) (hop : o.op = Op.mapUpdate t m x y)
    {E : TypeId} {key val : Value} {kl : Lit} {zs : List Int} (h : QsX P k e w base b n W no (fun x => x = key) r st) (K : Keyed P k) (ht : P.underlying t = some (.map k E)) (hkey : keyOf P k key = some kl)
    (hv : Qv w base e val zs) (hr : val.ownBlock = none ∨ val.ownBlock = r) (ha : Apt val no)
    (hm : a.eval m = .map (some b)) (hx : a.eval x = key) (hy : a.eval y = val)
    (hK : ∀ w2, w.grownBy w2 (some b) → Qs P k e w2 base b (n + 1) (setV W key zs) no → K' (a.put o.dst undef) w2) : o.wp P a w K' Q := by
  obtain ⟨w2, hrun, hg, hX⟩ := h.store K ht hkey hv hr ha
  unfold Oper.wp
  simp [execOp, hop, hm, hx, hy, hrun, Result.andThen]
  exact hK w2 hg hX
theorem wpList_store {ops : Array Oper} {rest : List Oper} {o : Oper} {a : Act} {Q : Exit → Act → World → Prop} (hgd : o.guard = none) (m x y : Operand) (t : TypeId) (hop : o.op = Op.mapUpdate t m x y)
    {E : TypeId} {key val : Value} {kl : Lit} {zs : List Int} (h : QsX P k e w base b n W no (fun x => x = key) r st) (K : Keyed P k) (ht : P.underlying t = some (.map k E)) (hkey : keyOf P k key = some kl)
    (hv : Qv w base e val zs) (hr : val.ownBlock = none ∨ val.ownBlock = r) (ha : Apt val no)
    (hm : a.eval m = .map (some b)) (hx : a.eval x = key) (hy : a.eval y = val)
    (hK : ∀ w2, w.grownBy w2 (some b) → Qs P k e w2 base b (n + 1) (setV W key zs) no → wpList P ops Q rest (a.put o.dst undef) w2) : wpList P ops Q (o :: rest) a w :=
  wpList_plain hgd fun _ hK' => wp_store m x y t hop h K ht hkey hv hr ha hm hx hy fun w2 h1 h2 => hK' _ _ (hK w2 h1 h2)
theorem step_store {ops : Array Oper} {o : Oper} {a : Act} {K' : Act → World → Prop} {Q : Exit → Act → World → Prop} {F : Prop} (hgd : o.guard = none) (m x y : Operand) (t : TypeId) (hop : o.op = Op.mapUpdate t m x y)
    {E : TypeId} {key val : Value} {kl : Lit} {zs : List Int} (h : QsX P k e w base b n W no (fun x => x = key) r st) (K : Keyed P k) (ht : P.underlying t = some (.map k E)) (hkey : keyOf P k key = some kl)
    (hv : Qv w base e val zs) (hr : val.ownBlock = none ∨ val.ownBlock = r) (ha : Apt val no)
    (hm : a.eval m = .map (some b)) (hx : a.eval x = key) (hy : a.eval y = val)
    (hK : ∀ w2, w.grownBy w2 (some b) → Qs P k e w2 base b (n + 1) (setV W key zs) no → K' (a.put o.dst undef) w2) : if Region.wanted o (yielded ops a.tmps) = true then Oper.wp P o a w K' Q else F := by
  have hw : Region.wanted o (yielded ops a.tmps) = true := by simp [Region.wanted, hgd]
  rw [if_pos hw]
  exact wp_store m x y t hop h K ht hkey hv hr ha hm hx hy hK
end
end Go.Proofs.Ytgbddcdpbgaojaa
