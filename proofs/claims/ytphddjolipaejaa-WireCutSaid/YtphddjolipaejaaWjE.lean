/- The laws on packets that are written and read: what is proved of the given program. It bears no condition. -/
import Derived.Test.YtphddjolipaejaaWjD
namespace Go.Proofs.Ytphddjolipaejaa
open Go Go.Im
set_option linter.unusedVariables false
set_option linter.unusedSimpArgs false
noncomputable section

/-! ### Packets that are the same -/
theorem sameX_cp' (v : XV) : sameX v (cpX v) = true := by simp [sameX, cpX]
theorem allSame_map' (vs : List XV) : allSame (vs.zip (vs.map cpX)) = true := by
  induction vs with
  | nil => rfl
  | cons v vs ih =>
    simp only [allSame, List.map_cons, List.zip_cons_cons, List.all_cons] at ih ⊢
    rw [ih, sameX_cp']; rfl
theorem same_cpy (p : PK) : p.same (cpy p) = true := by
  have e1 : p.headEq (cpy p) = true := by
    refine decide_eq_true ⟨rfl, rfl, rfl, rfl, rfl, rfl, rfl, rfl, rfl, rfl, rfl, rfl, rfl, (cpy_len p).symm⟩
  have e2 : allSame (p.xs.zip (cpy p).xs) = true := by rw [cpy_xs]; exact allSame_map' _
  unfold PK.same
  rw [e1, e2]
  simp [cpPK]
theorem row_eq {a b : List IV} (ha : okB a = true) (hb : okB b = true) (h : toBytes a = toBytes b) : a = b := by rw [okB_eq ha, okB_eq hb, h]
theorem sameX_field {v w : XV} (hv : v.ok = true) (hw : w.ok = true) (h : sameX v w = true) : fieldL v = fieldL w := by
  simp only [sameX, Bool.and_eq_true, beq_iff_eq] at h
  obtain ⟨⟨⟨⟨⟨⟨⟨h1, h2⟩, h3⟩, h4⟩, h5⟩, h6⟩, h7⟩, h8⟩ := h
  have kv := (ok_iff.1 hv).2
  have kw := (ok_iff.1 hw).2
  unfold fieldL fst8 xsize
  rw [h1, h2, h3, h4, h5, h6, row_eq kv.1 kw.1 h7, row_eq kv.2 kw.2 h8]
theorem allSame_fields : ∀ {vs ws : List XV}, vs.length = ws.length → (∀ v ∈ vs, v.ok = true) → (∀ w ∈ ws, w.ok = true) → allSame (vs.zip ws) = true → fieldsL vs = fieldsL ws
  | [], [], _, _, _, _ => rfl
  | [], _ :: _, h, _, _, _ => by cases h
  | _ :: _, [], h, _, _, _ => by cases h
  | v :: vs, w :: ws, hl, hv, hw, h => by
    simp only [allSame, List.zip_cons_cons, List.all_cons, Bool.and_eq_true] at h
    rw [fieldsL_cons, fieldsL_cons, sameX_field (hv v (List.mem_cons_self ..)) (hw w (List.mem_cons_self ..)) h.1,
      allSame_fields (by simpa using hl) (fun x hx => hv x (List.mem_cons_of_mem _ hx)) (fun x hx => hw x (List.mem_cons_of_mem _ hx)) h.2]
theorem same_write {p q : PK} (hp : p.ok = true) (hq : q.ok = true) (h : p.same q = true) : writeL p = writeL q := by
  simp only [PK.same, Bool.and_eq_true, PK.headEq, decide_eq_true_eq, beq_iff_eq] at h
  obtain ⟨⟨⟨h1, h2, h3, h4, h5, h6, h7, h8, h9, h10, h11, h12, h13, h14⟩, h15⟩, ⟨h16, h17⟩, h18⟩ := h
  have kp := pk_es hp
  have kq := pk_es hq
  have e := allSame_fields (by rw [p.xs_len, q.xs_len, h14]) kp.2 kq.2 h15
  unfold writeL hdrL headL headN macsL macL
  rw [e, h1, h3, h4, h5, h6, h7, h8, h9, h10, h11, h12, h13, h16, h17, row_eq (pok_iff.1 hp).2.1 (pok_iff.1 hq).2.1 h18]

/-! ### What is written are bytes -/
theorem okB_app {a b : List IV} (ha : okB a = true) (hb : okB b = true) : okB (a ++ b) = true := by
  unfold okB at ha hb ⊢
  rw [List.all_append, ha, hb]; rfl
theorem okB_one {x : Int} (h : 0 ≤ x ∧ x < 256) : okB [.int .u8 x] = true := by simp [okB, h.1, h.2]
theorem okB_cons {x : Int} {l : List IV} (h : 0 ≤ x ∧ x < 256) (hl : okB l = true) : okB (.int .u8 x :: l) = true := okB_app (okB_one h) hl
theorem u8r (x : Int) : 0 ≤ IntKind.u8.wrap x ∧ IntKind.u8.wrap x < 256 := by rw [wrap_u8]; omega
theorem okB_data {l : List IV} (h : okB l = true) : okB (dataL l) = true := okB_app (okB_app (okB_u8s _) h) (okB_rep _)
theorem okB_field {v : XV} (h : v.ok = true) (hg : goodX v = true) : okB (fieldL v) = true := by
  obtain ⟨g1, g2, _⟩ := good_iff hg
  have hk := ok_iff.1 h
  have hf : 0 ≤ fst8 v ∧ fst8 v < 256 := by
    unfold fst8
    cases v.b <;> cases v.c <;> simp only [cond_true, cond_false] <;> omega
  unfold fieldL
  exact okB_app (okB_app (okB_app (okB_app (okB_app (okB_app (okB_app (okB_cons hf (okB_one (by omega))) (okB_u8s _)) (okB_u8s _)) (okB_cons (by omega) (okB_one (by omega)))) (okB_u8s _)) (okB_u8s _)) (okB_data hk.2.1)) (okB_data hk.2.2)
theorem okB_fields : ∀ {vs : List XV}, (∀ v ∈ vs, v.ok = true ∧ goodX v = true) → okB (fieldsL vs) = true
  | [], _ => rfl
  | v :: vs, h => by
    rw [fieldsL_cons]
    have hv := h v (List.mem_cons_self ..)
    exact okB_app (okB_field hv.1 hv.2) (okB_fields fun w hw => h w (List.mem_cons_of_mem _ hw))
theorem okB_write {p : PK} (hp : p.ok = true) (hr : p.right = true) : okB (writeL p) = true := by
  obtain ⟨r1, r2, r3, r4⟩ := right_iff hr
  obtain ⟨h1, h2, h3, h4, h5, _⟩ := head_iff r1
  have hh : 0 ≤ headN p ∧ headN p < 256 := by unfold headN; omega
  unfold writeL
  refine okB_app (okB_app ?_ (okB_fields fun v hv => ⟨(pk_es hp).2 v hv, r2 v hv⟩)) ?_
  · unfold hdrL headL
    exact okB_app (okB_app (okB_app (okB_app (okB_app (okB_app (okB_app (okB_cons hh (okB_cons (u8r _) (okB_cons (u8r _) (okB_one (u8r _))))) (okB_u8s _)) (okB_u8s _)) (okB_u8s _)) (okB_u8s _)) (okB_u8s _)) (okB_u8s _)) (okB_u8s _)
  · unfold macsL
    cases p.ha
    · rfl
    · exact okB_app (okB_u8s _) (pok_iff.1 hp).2.1
theorem right_fine {p : PK} (hp : p.ok = true) (hr : p.right = true) : p.fine = true := by
  obtain ⟨r1, r2, r3, r4⟩ := right_iff hr
  have h12 := (head_iff r1).2.2.2.2.2.2.2.2.2.2.2
  have hw := wts_sizes p.xs
  have ht : p.tot = 48 + p.macN + sizes p.xs := rfl
  have hs : p.su.length ≤ p.macN := by
    unfold PK.macOK at r3
    unfold PK.macN
    cases h : p.ha
    · rw [h, cond_false, decide_eq_true_eq] at r3
      rw [cond_false]; omega
    · rw [cond_true]; omega
  unfold PK.fine PK.heavy
  rw [hp, decide_eq_false (by omega), decide_eq_false (by omega)]; rfl
theorem row_write {p : PK} (hp : p.ok = true) (hr : p.right = true) : rowB 1 (writeL p) = true := by
  have h := (right_iff hr).2.2.2
  have hl := writeL_len p
  unfold rowB
  rw [okB_write hp hr, decide_eq_true (by omega)]; rfl
theorem sizes_mod : ∀ {vs : List XV}, (∀ v ∈ vs, goodX v = true) → sizes vs % 4 = 0
  | [], _ => rfl
  | v :: vs, h => by
    have h1 := (xsize_good (h v (List.mem_cons_self ..))).2.2
    have h2 := sizes_mod fun w hw => h w (List.mem_cons_of_mem _ hw)
    rw [sizes_cons]; omega
theorem tot_mod {p : PK} (hr : p.right = true) : p.tot % 4 = 0 := by
  obtain ⟨r1, r2, r3, r4⟩ := right_iff hr
  have h1 := sizes_mod r2
  have hm : p.macN % 4 = 0 := by
    unfold PK.macOK at r3
    unfold PK.macN
    cases h : p.ha
    · rfl
    · rw [h, cond_true, decide_eq_true_eq] at r3
      rw [cond_true]; omega
  unfold PK.tot
  omega

/-! ### The laws -/
abbrev tab2 : FuncId → Option SpecF := lawTab2 PK.ok PK.heavy (fun p => p.fine && p.right) (fun p => p.fine2 && !p.right) writeL PK.fine rightG (fun p q => p.ok && q.ok) PK.same rowB rdPk rdFa rdFc frontL
theorem tab2_ok : ∀ f F, tab2 f = some F → Known Try.prog hint f F := tab_cons hv_known (tab_cons alive_known (tab_cons write_known2 (tab_cons right_known (tab_cons same_known (tab_cons read_known (tab_cons front_known tab_nil))))))
theorem fc_none {l : List IV} (h : rdA l = none) : rdFc l = 0 ∧ rdPk l = okPk l := by unfold rdFc rdPk; rw [h]; exact ⟨rfl, rfl⟩
theorem fc_some {l : List IV} {x : Int × Int} (h : rdA l = some x) : rdFc l = x.2 ∧ rdFa l = x.1 ∧ rdPk l = noPk := by unfold rdFc rdFa rdPk; rw [h]; exact ⟨rfl, rfl, rfl⟩
theorem no_ok : noPk.ok = true := rfl
theorem z_ok : zPK.ok = true := rfl
theorem no_same : noPk.same zPK = true := rfl
theorem isB {l : List IV} (h : okB l = true) : (decide (1 = 1 ∨ l.length = 0) && isBytes l) = true := by rw [isBytes_ok h]; rfl
theorem back_second {l : List IV} (h : rowB 1 l = true) (X Y : Option (IV × List Blk)) :
    (bif rowB 1 l then bif rdFc l != 0 then bif (rdPk l).ok && zPK.ok then some (IV.bool (bif bif bif true then (rdPk l).same zPK else false then decide (rdFa l ≥ 0) else false then decide (rdFa l ≤ (l.length : Int)) else false), []) else none else
      bif (rdPk l).fine && (rdPk l).right then bif (rdPk l).fine then bif decide (1 = 1 ∨ (writeL (rdPk l)).length = 0) && isBytes (writeL (rdPk l)) then bif decide (1 = 1 ∨ l.length = 0) && isBytes l then
        some (IV.bool (bif bif bif true then rightG (rdPk l) == 0 else false then (0 : Int) == 0 else false then toBytes (writeL (rdPk l)) == toBytes l else false), []) else none else none else none else X else Y) = some (IV.bool true, ([] : List Blk)) := by
  have hr := h
  simp only [rowB, Bool.and_eq_true, decide_eq_true_eq] at hr
  obtain ⟨⟨-, hl⟩, ho⟩ := hr
  refine bif_step h ?_
  cases hA : rdA l with
  | some x =>
    obtain ⟨e1, e2, e3⟩ := fc_some hA
    obtain ⟨k1, k2, k3⟩ := rdA_code hA
    refine bif_step (by rw [e1, bne_iff_ne]; exact k1) ?_
    rw [e2, e3]
    refine bif_step rfl ?_
    rw [no_same, decide_eq_true (show x.1 ≥ 0 from k2), decide_eq_true (k3 ho)]; rfl
  | none =>
    obtain ⟨e1, e3⟩ := fc_none hA
    obtain ⟨k1, k2, k3, k4⟩ := read_write ho hA
    refine bif_stepF (by rw [e1]; rfl) ?_
    rw [e3]
    refine bif_step (by rw [k2, k3]; rfl) (bif_step k2 ?_)
    rw [k4]
    refine bif_step (isB ho) (bif_step (isB ho) ?_)
    have e4 : rightG (okPk l) = 0 := by simp [rightG, k3]
    rw [e4]
    simp
theorem cpy_ok' {p : PK} (hp : p.ok = true) (hr : p.right = true) : (cpy p).ok = true := cpy_ok (right_fine hp hr)
theorem back_true (p : PK) (hp : p.ok = true) (hg : p.rng = true) (nl : Option Bool) (cl : Bool) (l : List IV) (ho : okB l = true) : Cb tab2 (fun _ _ => none) 4 [p.iv, .fsl nl cl 1 l] [] = some (.bool true, []) := by
  refine (back_all p nl cl l ..).trans (bif_step hp ?_)
  by_cases h1 : p.heavy = true ∨ 4000 < l.length
  · refine bif_step ?_ rfl
    rcases h1 with h1 | h1
    · rw [h1]; rfl
    · rw [decide_eq_true (show (l.length : Int) > 4000 by omega)]; simp
  have hh : p.heavy = false := by
    cases h : p.heavy
    · rfl
    · exact absurd (.inl h) h1
  refine bif_stepF (by rw [hh, decide_eq_false (by omega)]; rfl) ?_
  have hrow : rowB 1 l = true := by
    unfold rowB
    rw [ho, decide_eq_true (by omega)]; rfl
  have hf : p.fine = true := by simp [PK.fine, hp, hh]
  cases hr : p.right
  · refine bif_stepF (by simp) (bif_step (by rw [fine_2 hf]; rfl) ?_)
    exact back_second hrow _ _
  · obtain ⟨w1, w2, w3⟩ := write_read hr hg
    obtain ⟨e1, e3⟩ := fc_none w1
    refine bif_step (by rw [hf]; rfl) (bif_step (row_write hp hr) (bif_step (by rw [e1]; rfl) (bif_step (c := p.ok && (rdPk (writeL p)).ok) (by rw [e3, w3, hp, cpy_ok' hp hr]; rfl) (bif_stepF (c := bif false then true else !p.same (rdPk (writeL p))) (by rw [e3, w3, same_cpy]; rfl) ?_))))
    exact back_second hrow _ _
theorem long_no {p : PK} (hp : p.ok = true) (hr : p.right = true) {m : Int} (hm : 0 ≤ m ∧ m ≤ 255) : ∃ x, rdA (writeL p ++ [.int .u8 m]) = some x := by
  cases hA : rdA (writeL p ++ [.int .u8 m]) with
  | some x => exact ⟨x, rfl⟩
  | none =>
    have ho : okB (writeL p ++ [.int .u8 m]) = true := okB_app (okB_write hp hr) (okB_one (by omega))
    obtain ⟨k1, k2, k3, k4⟩ := read_write ho hA
    have h1 := congrArg List.length k4
    rw [writeL_len, List.length_append, writeL_len] at h1
    have h2 := tot_mod hr
    have h3 := tot_mod k3
    simp only [List.length_cons, List.length_nil] at h1
    omega
theorem short_no {l : List IV} (h : l.length < 48) : rdA l = some ((l.length : Int), 72) := by
  rw [rdA, decide_eq_false (by omega), decide_eq_true h]; rfl
theorem cut_true (p : PK) (hp : p.ok = true) (hg : p.rng = true) (n m : Int) (hm : 0 ≤ m ∧ m ≤ 255) : Cb tab2 (fun _ _ => none) 5 [p.iv, .int .i64 n, .int .u8 m] [] = some (.bool true, []) := by
  refine (cut_law p n m ..).trans (bif_step hp ?_)
  cases hh : p.heavy
  case true => exact bif_step rfl rfl
  refine bif_stepF rfl ?_
  have hf : p.fine = true := by simp [PK.fine, hp, hh]
  cases hr : p.right
  · exact bif_stepF (by simp) (bif_step (by rw [fine_2 hf]; rfl) rfl)
  have hl := writeL_len p
  have ht := (right_iff hr).2.2.2
  have how := okB_write hp hr
  refine bif_step (by rw [hf]; rfl) ?_
  simp only [List.nil_append]
  refine bif_step (decide_eq_true (by rw [hl, roomB_nat, maxLen_val]; omega)) (bif_step (decide_eq_true (by rw [hl, roomB_nat, maxLen_val]; simp only [List.length_cons, List.length_nil]; omega)) ?_)
  have hrow : rowB 1 (writeL p ++ [.int .u8 m]) = true := by
    unfold rowB
    rw [okB_app how (okB_one (by omega)), decide_eq_true ⟨rfl, by rw [List.length_append, hl]; simp only [List.length_cons, List.length_nil]; omega⟩]; rfl
  obtain ⟨x, hx⟩ := long_no hp hr hm
  refine bif_step hrow (bif_stepF (by rw [(fc_some hx).1, beq_eq_false_iff_ne]; exact (rdA_code hx).1) ?_)
  by_cases c1 : n < 0 ∨ (writeL p).length ≤ n.toNat
  · refine bif_step ?_ rfl
    rcases c1 with c1 | c1
    · rw [decide_eq_true c1]; rfl
    · by_cases c2 : n < 0
      · rw [decide_eq_true c2]; rfl
      · rw [decide_eq_true (show n ≥ ((writeL p).length : Int) by omega)]; simp
  refine bif_stepF (by rw [decide_eq_false (by omega), decide_eq_false (by omega)]; rfl) (bif_step (decide_eq_true (by omega)) ?_)
  rw [Nat.sub_zero, List.drop_zero]
  have htl : ((writeL p).take n.toNat).length = n.toNat := by rw [List.length_take]; omega
  have hto : okB ((writeL p).take n.toNat) = true := okB_take how _
  have htr : rowB 1 ((writeL p).take n.toNat) = true := by
    unfold rowB
    rw [hto, decide_eq_true (by omega)]; rfl
  refine bif_step htr ?_
  by_cases c2 : n < 48
  · refine bif_step (decide_eq_true c2) ?_
    obtain ⟨e1, e2, -⟩ := fc_some (short_no (l := (writeL p).take n.toNat) (by omega))
    rw [e1, e2, htl]
    have : ((n.toNat : Nat) : Int) = n := by omega
    rw [this]
    simp
  refine bif_stepF (decide_eq_false c2) ?_
  cases hA : rdA ((writeL p).take n.toNat) with
  | some y =>
    obtain ⟨e1, -, -⟩ := fc_some hA
    have hy := (rdA_code hA).1
    have hne : (rdFc ((writeL p).take n.toNat) != 0) = true := by rw [e1, bne_iff_ne]; exact hy
    rw [hne]
    exact bif_stepF rfl (bif_stepF rfl (bif_step rfl rfl))
  | none =>
    obtain ⟨e1, e3⟩ := fc_none hA
    obtain ⟨k1, k2, k3, k4⟩ := read_write hto hA
    have hne : (rdFc ((writeL p).take n.toNat) != 0) = false := by rw [e1]; rfl
    rw [hne]
    have hs : p.same (rdPk ((writeL p).take n.toNat)) = false := by
      cases h : p.same (rdPk ((writeL p).take n.toNat))
      · rfl
      · rw [e3] at h
        have h1 := same_write hp k1 h
        rw [k4] at h1
        have h2 := congrArg List.length h1
        omega
    refine bif_step rfl (bif_step (c := p.ok && (rdPk ((writeL p).take n.toNat)).ok) (by rw [e3, hp, k1]; rfl) ?_)
    have e : (bif true then bif false then true else !p.same (rdPk ((writeL p).take n.toNat)) else false) = true := by rw [hs]; rfl
    exact congrArg (fun b => some (IV.bool b, ([] : List Blk))) e
def bareP (p : PK) : PK := ⟨p.le, p.ve, p.mo, p.st, p.po, p.pr, p.de, p.di, p.ri, p.rf, p.og, p.rc, p.xm, p.n1, p.c1, p.z1, p.es, false, 0, some true, true, 0, []⟩
def macP' (p : PK) (k : Int) (nl : Option Bool) (cl : Bool) (l : List IV) : PK := ⟨p.le, p.ve, p.mo, p.st, p.po, p.pr, p.de, p.di, p.ri, p.rf, p.og, p.rc, p.xm, p.n1, p.c1, p.z1, p.es, true, k, nl, cl, 1, l⟩
theorem front_true (p : PK) (hp : p.ok = true) (hg : p.rng = true) (k : Int) (hk : 0 ≤ k ∧ k ≤ 4294967295) (nl : Option Bool) (cl : Bool) (l : List IV) (ho : okB l = true) (hl : l.length ≤ 140737488351232) :
    Cb tab2 (fun _ _ => none) 6 [p.iv, .int .u32 k, .fsl nl cl 1 l] [] = some (.bool true, []) := by
  refine (front_all p k nl cl l ..).trans (bif_step hp ?_)
  cases hh : p.heavy
  case true => exact bif_step rfl rfl
  refine bif_stepF rfl ?_
  have hf : p.fine = true := by simp [PK.fine, hp, hh]
  obtain ⟨f1, f2, f3, f4⟩ := fine_iff hf
  have hpk := pok_iff.1 hp
  have b1 : (bareP p).ok = true := pok_iff.2 ⟨⟨hpk.1.1, .inr rfl, hpk.1.2.2.1, by show (0 : Nat) ≤ _; omega⟩, rfl, hpk.2.2⟩
  have m1 : (macP' p k nl cl l).ok = true := pok_iff.2 ⟨⟨hpk.1.1, .inl rfl, hpk.1.2.2.1, by show l.length ≤ _; omega⟩, ho, hpk.2.2⟩
  have b2 : (bareP p).fine2 = true := by
    simp only [PK.fine2, b1, Bool.true_and, decide_eq_true_eq]
    exact ⟨f2, f4⟩
  have m2 : (macP' p k nl cl l).fine2 = true := by
    simp only [PK.fine2, m1, Bool.true_and, decide_eq_true_eq]
    exact ⟨f2, f4⟩
  cases rb : (bareP p).right
  · refine bif_stepF (c := (bareP p).fine && (bareP p).right) (by rw [rb]; simp) (bif_step (c := (bareP p).fine2 && !(bareP p).right) (by rw [rb, b2]; rfl) ?_)
    cases rm : (macP' p k nl cl l).right
    · exact bif_stepF (c := (macP' p k nl cl l).fine && (macP' p k nl cl l).right) (by rw [rm]; simp) (bif_step (c := (macP' p k nl cl l).fine2 && !(macP' p k nl cl l).right) (by rw [rm, m2]; rfl) rfl)
    · exact bif_step (c := (macP' p k nl cl l).fine && (macP' p k nl cl l).right) (by rw [rm, right_fine m1 rm]; rfl) rfl
  refine bif_step (c := (bareP p).fine && (bareP p).right) (by rw [rb, right_fine b1 rb]; rfl) ?_
  cases rm : (macP' p k nl cl l).right
  · refine bif_stepF (c := (macP' p k nl cl l).fine && (macP' p k nl cl l).right) (by rw [rm]; simp) (bif_step (c := (macP' p k nl cl l).fine2 && !(macP' p k nl cl l).right) (by rw [rm, m2]; rfl) ?_)
    have e : (bif true then IntKind.i64.wrap (((0 : Nat) : Int) * ((writeL (bareP p)).length : Int)) == 0 else false) = true := by
      rw [show ((0 : Nat) : Int) = 0 from rfl, Int.zero_mul]; rfl
    exact congrArg (fun b => some (IV.bool b, ([] : List Blk))) e
  have hgp := hg
  simp only [PK.rng, Bool.and_eq_true, decide_eq_true_eq] at hgp
  have gm : (macP' p k nl cl l).rng = true := by
    simp only [PK.rng, Bool.and_eq_true, decide_eq_true_eq]
    obtain ⟨⟨a1, a2, a3, a4, a5, a6, a7, a8, a9⟩, a17⟩ := hgp
    exact ⟨⟨a1, a2, a3, a4, a5, a6, hk.1, hk.2, a9⟩, a17⟩
  obtain ⟨w1, w2, w3⟩ := write_read rm gm
  obtain ⟨e1, e3⟩ := fc_none w1
  have e2 : rdK (writeL (macP' p k nl cl l)) = ((48 + sizes p.xs : Nat) : Int) := by
    unfold rdK
    rw [w1]
    show ((rdN _ : Nat) : Int) = _
    rw [w2]; rfl
  have eF : frontL (writeL (macP' p k nl cl l)) = writeL (bareP p) := by
    unfold frontL
    have h48 : (hdrL p ++ fieldsL p.xs).length = 48 + sizes p.xs := by rw [List.length_append, hdrL_len, fieldsL_len]
    have ew : writeL (macP' p k nl cl l) = (hdrL p ++ fieldsL p.xs) ++ macL k l := rfl
    have eb : writeL (bareP p) = (hdrL p ++ fieldsL p.xs) ++ [] := rfl
    rw [e2, Int.toNat_natCast, ew, eb, List.take_left' h48, List.append_nil]
  have hw := okB_write m1 rm
  have hb := okB_write b1 rb
  refine bif_step (c := (macP' p k nl cl l).fine && (macP' p k nl cl l).right) (by rw [rm, right_fine m1 rm]; rfl) (bif_step (c := rowB 1 (writeL (macP' p k nl cl l))) (row_write m1 rm) ?_)
  refine bif_step (c := decide (1 = 1 ∨ (frontL (writeL (macP' p k nl cl l))).length = 0) && isBytes (frontL (writeL (macP' p k nl cl l)))) (isB (by rw [eF]; exact hb)) (bif_step (c := decide (1 = 1 ∨ (writeL (bareP p)).length = 0) && isBytes (writeL (bareP p))) (isB hb) ?_)
  have tm := (right_iff rm).2.2.2
  have hwl : (writeL (macP' p k nl cl l)).length = 48 + (4 + l.length) + sizes p.xs := writeL_len _
  have hbl : (writeL (bareP p)).length = 48 + sizes p.xs := writeL_len _
  have htm : (macP' p k nl cl l).tot = 48 + (4 + l.length) + sizes p.xs := rfl
  have e : (bif bif bif true then rdFc (writeL (macP' p k nl cl l)) == 0 else false then toBytes (frontL (writeL (macP' p k nl cl l))) == toBytes (writeL (bareP p)) else false then
      ((writeL (macP' p k nl cl l)).length : Int) == IntKind.i64.wrap (IntKind.i64.wrap (((writeL (bareP p)).length : Int) + 4) + (l.length : Int)) else false) = true := by
    rw [e1, eF, hwl, hbl, wadd4 (by omega), wadd (by omega)]
    simp
    omega
  exact congrArg (fun b => some (IV.bool b, ([] : List Blk))) e

/-! ### The arguments -/
theorem arg25 {x : IV} (h : ArgT Try.prog 25 x) : ∃ nl cl l, x = .fsl nl cl 1 l ∧ okB l = true ∧ l.length ≤ 140737488351232 := by
  obtain ⟨n, l, h1, h2, _⟩ := h
  obtain ⟨nl, cl, xs, rfl, _, o, hl⟩ := ty25 h1
  have : x = .fsl (some nl) cl 1 xs := by
    simp only [pack, isAggT, Try.underlying25, Option.map_some] at h2
    exact (Option.some.inj h2).symm
  exact ⟨some nl, cl, xs, this, o, hl⟩
theorem wireBack_run (xs : List IV) (hl : xs.length = Try.f4.params.size) (h : ∀ (i : Nat) t, Try.f4.params[i]? = some t → ∃ x, xs[i]? = some x ∧ ArgT Try.prog t x) :
    ∃ k, acall Try.prog hint (ovrOf tab2) k 4 xs [] = some (.bool true, []) := by
  rw [Try.params4] at hl h
  obtain ⟨x0, g0, a0⟩ := h 0 29 rfl
  obtain ⟨x1, g1, a1⟩ := h 1 25 rfl
  match xs, hl with
  | [y0, y1], _ =>
    simp only [List.getElem?_cons_zero, List.getElem?_cons_succ, Option.some.injEq] at g0 g1
    subst g0 g1
    obtain ⟨p, rfl, hp, hg⟩ := arg29' a0
    obtain ⟨nl, cl, l, rfl, ho, _⟩ := arg25 a1
    exact law_run loops_none (back_true p hp hg nl cl l ho)
theorem wireCut_run (xs : List IV) (hl : xs.length = Try.f5.params.size) (h : ∀ (i : Nat) t, Try.f5.params[i]? = some t → ∃ x, xs[i]? = some x ∧ ArgT Try.prog t x) :
    ∃ k, acall Try.prog hint (ovrOf tab2) k 5 xs [] = some (.bool true, []) := by
  rw [Try.params5] at hl h
  obtain ⟨x0, g0, a0⟩ := h 0 29 rfl
  obtain ⟨x1, g1, a1⟩ := h 1 3 rfl
  obtain ⟨x2, g2, a2⟩ := h 2 5 rfl
  match xs, hl with
  | [y0, y1, y2], _ =>
    simp only [List.getElem?_cons_zero, List.getElem?_cons_succ, Option.some.injEq] at g0 g1 g2
    subst g0 g1 g2
    obtain ⟨p, rfl, hp, hg⟩ := arg29' a0
    obtain ⟨n, rfl, _⟩ := arg_int Try.underlying3 a1
    obtain ⟨m, rfl, hm⟩ := arg_int Try.underlying5 a2
    obtain ⟨ra, rb⟩ := Go.Im.range_u8
    exact law_run loops_none (cut_true p hp hg n m (by omega))
theorem wireFront_run (xs : List IV) (hl : xs.length = Try.f6.params.size) (h : ∀ (i : Nat) t, Try.f6.params[i]? = some t → ∃ x, xs[i]? = some x ∧ ArgT Try.prog t x) :
    ∃ k, acall Try.prog hint (ovrOf tab2) k 6 xs [] = some (.bool true, []) := by
  rw [Try.params6] at hl h
  obtain ⟨x0, g0, a0⟩ := h 0 29 rfl
  obtain ⟨x1, g1, a1⟩ := h 1 22 rfl
  obtain ⟨x2, g2, a2⟩ := h 2 25 rfl
  match xs, hl with
  | [y0, y1, y2], _ =>
    simp only [List.getElem?_cons_zero, List.getElem?_cons_succ, Option.some.injEq] at g0 g1 g2
    subst g0 g1 g2
    obtain ⟨p, rfl, hp, hg⟩ := arg29' a0
    obtain ⟨k, rfl, hk⟩ := arg_int Try.underlying22 a1
    obtain ⟨nl, cl, l, rfl, ho, hl⟩ := arg25 a2
    obtain ⟨ra, rb⟩ := Go.Im.range_u32
    exact law_run loops_none (front_true p hp hg k (by omega) nl cl l ho hl)
end
end Go.Proofs.Ytphddjolipaejaa
