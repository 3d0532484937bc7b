/- The evaluator of the text EvA: regions that draw their order, proved calls, a function run in parts: a run that ends in done is a contract of the model. -/
import Derived.Test.YtlickidejlaebaaGreatDoorEvC
set_option linter.constructorNameAsVariable false
set_option linter.unusedVariables false
set_option linter.unusedSimpArgs false
set_option linter.unusedSectionVars false
/-! Proofs, part 38: towards regions that draw: a temporary that the evaluator has written already is written by the machine. -/
namespace Go.Ev
set_option linter.unusedVariables false
set_option linter.unusedSimpArgs false
/-- U without t -/
def offU (U : Nat → Prop) (t : Nat) : Nat → Prop := fun s => U s ∧ s ≠ t
section
variable {X : Cx} {base : Nat} {U : Nat → Prop} {μ : Mu} {w : World} {H : Heap} {τ : QT X.d} {a : Act} {env : List Ad}
theorem FR.list (h : FR X base U μ w τ a) {t : Nat} (hn : t < X.nt) {x : Value} (hv : isPlain X t = true → Ok (qget X.d t τ) → VR μ (qget X.d t τ) x) (h21 : (qget X.d t τ).t ≠ 21 ∨ X.pb.testBit t = false) :
    FR X base (offU U t) μ w τ (a.put (some t) x) := by
  have p : ∀ t', (a.put (some t) x).tmps.getD t' undef = if t' = t then x else a.tmps.getD t' undef := fun t' => put_getD a t t' x (by rw [h.sz]; exact hn)
  have un : ∀ t', t' ≠ t → ¬ offU U t t' → ¬ U t' := fun t' e hu hu' => hu ⟨hu', e⟩
  have nb : ∀ t', X.pb.testBit t' = true → (qget X.d t' τ).t = 21 → t' ≠ t := fun t' hb h1 e => by
    rw [e] at h1 hb
    rcases h21 with h2 | h2
    · exact h2 h1
    · rw [h2] at hb; cases hb
  refine ⟨by simp [Act.put, h.sz], h.dp, fun t' hu hp ho => ?_, fun t' hu hn' hb ht => ?_, fun t' t'' hu hu' hn' hn'' hb hb' ht ht' e => ?_, h.df⟩
  · rw [p t']
    by_cases e : t' = t
    · subst e; rw [if_pos rfl]; exact hv hp ho
    · rw [if_neg e]; exact h.tm t' (un t' e hu) hp ho
  · have ne := nb t' hb ht
    rw [p t', if_neg ne]
    exact h.bx t' (un t' ne hu) hn' hb ht
  · have ne := nb t' hb ht
    have ne' := nb t'' hb' ht'
    rw [p, p, if_neg ne, if_neg ne'] at e
    exact h.dj t' t'' (un t' ne hu) (un t'' ne' hu') hn' hn'' hb hb' ht ht' e
theorem FR.listBox (h : FR X base U μ w τ a) {t c : Nat} (hn : t < X.nt) (hb : X.pb.testBit t = true) {w' : World} (hv : BoxR base μ w' (qget X.d t τ) c)
    (hw : ∀ c', c' < w.heap.size → c' ≠ c → w'.heap[c']? = w.heap[c']?) (hc : w.heap.size ≤ c) :
    FR X base (offU U t) μ w' τ (a.put (some t) (.pointer (some ⟨c, 0, none⟩))) := by
  have p : ∀ t', (a.put (some t) (.pointer (some ⟨c, 0, none⟩))).tmps.getD t' undef = if t' = t then .pointer (some ⟨c, 0, none⟩) else a.tmps.getD t' undef := fun t' => put_getD a t t' _ (by rw [h.sz]; exact hn)
  have un : ∀ t', t' ≠ t → ¬ offU U t t' → ¬ U t' := fun t' e hu hu' => hu ⟨hu', e⟩
  have other : ∀ t', t' ≠ t → ¬ offU U t t' → t' < X.nt → X.pb.testBit t' = true → (qget X.d t' τ).t = 21 → ∃ c', a.tmps.getD t' undef = .pointer (some ⟨c', 0, none⟩) ∧ c' < w.heap.size ∧ BoxR base μ w (qget X.d t' τ) c' :=
    fun t' e hu hn' hb' ht => let ⟨c', h1, h2⟩ := h.bx t' (un t' e hu) hn' hb' ht; ⟨c', h1, h2.lt, h2⟩
  refine ⟨by simp [Act.put, h.sz], h.dp, fun t' hu hp ho => ?_, fun t' hu hn' hb' ht => ?_, fun t' t'' hu hu' hn' hn'' hb' hb'' ht ht' e => ?_, h.df⟩
  · have ne : t' ≠ t := fun e => by
      have := (isPlain_inv hp).2.1
      rw [e, hb] at this; cases this
    rw [p t', if_neg ne]; exact h.tm t' (un t' ne hu) hp ho
  · rw [p t']
    by_cases e : t' = t
    · rw [if_pos e, e]; exact ⟨c, rfl, hv⟩
    · rw [if_neg e]
      obtain ⟨c', h1, h2, h3⟩ := other t' e hu hn' hb' ht
      obtain ⟨cs, ee, k1, k2, k3, k4⟩ := h3.ex
      exact ⟨c', h1, h3.ge, ⟨cs, ee, by rw [hw c' h2 (by omega)]; exact k1, k2, k3, k4⟩, h3.un⟩
  · rw [p, p] at e
    by_cases e1 : t' = t
    · by_cases e2 : t'' = t
      · rw [e1, e2]
      · obtain ⟨c', h1, h2, _⟩ := other t'' e2 hu' hn'' hb'' ht'
        rw [if_pos e1, if_neg e2, h1] at e
        injection e with e; injection e with e; injection e with e _ _
        omega
    · by_cases e2 : t'' = t
      · obtain ⟨c', h1, h2, _⟩ := other t' e1 hu hn' hb' ht
        rw [if_neg e1, if_pos e2, h1] at e
        injection e with e; injection e with e; injection e with e _ _
        omega
      · rw [if_neg e1, if_neg e2] at e
        exact h.dj t' t'' (un t' e1 hu) (un t'' e2 hu') hn' hn'' hb' hb'' ht ht' e
theorem AR.list (hA : AR X U env τ a) (h : FR X base U μ w τ a) {t : Nat} (hn : t < X.nt) {x : Value} (h1 : (qget X.d t τ).t ≠ 1 ∨ X.ad.testBit t = false) (hbx : ∀ ad ∈ env, ad.box ≠ t) :
    AR X (offU U t) env τ (a.put (some t) x) := by
  intro t' ad hu hub hf hn' hb ht
  have hne : t' ≠ t := fun e => by
    rw [e] at ht hb
    rcases h1 with h2 | h2
    · exact h2 ht
    · rw [h2] at hb; cases hb
  have hnb := hbx ad (findAd_mem hf)
  obtain ⟨c, k1, k2⟩ := hA t' ad (fun hu' => hu ⟨hu', hne⟩) (fun hu' => hub ⟨hu', hnb⟩) hf hn' hb ht
  refine ⟨c, ?_, ?_⟩
  · rw [put_getD _ _ _ _ (by rw [h.sz]; exact hn), if_neg hnb]; exact k1
  · rw [put_getD _ _ _ _ (by rw [h.sz]; exact hn), if_neg hne]; exact k2
/-- more is unknown: the evaluator has gone ahead -/
theorem FR.ahead (h : FR X base U μ w τ a) {t : Nat} (hn : t < X.nt) (v : AV) {U' : Nat → Prop} (hU : ∀ s, U' s ↔ U s ∨ s = t) : FR X base U' μ w (qset X.d t τ v) a := by
  have g : ∀ t', t' < X.nt + 2 → t' ≠ t → qget X.d t' (qset X.d t τ v) = qget X.d t' τ := fun t' ht' e => by
    rw [qget_qset _ _ _ _ _ (h.pow (by omega)) (h.pow ht'), if_neg e]
  have un : ∀ s, ¬ U' s → ¬ U s ∧ s ≠ t := fun s hs => ⟨fun hu => hs ((hU s).2 (.inl hu)), fun e => hs ((hU s).2 (.inr e))⟩
  refine ⟨h.sz, h.dp, fun t' hu hp ho => ?_, fun t' hu hn' hb ht => ?_, fun t' t'' hu hu' hn' hn'' hb hb' ht ht' e => ?_, fun ht => ?_⟩
  · obtain ⟨u1, u2⟩ := un t' hu
    have := (isPlain_inv hp).1
    rw [g t' (by omega) u2] at ho ⊢; exact h.tm t' u1 hp ho
  · obtain ⟨u1, u2⟩ := un t' hu
    rw [g t' (by omega) u2] at ht ⊢; exact h.bx t' u1 hn' hb ht
  · obtain ⟨u1, u2⟩ := un t' hu
    obtain ⟨u3, u4⟩ := un t'' hu'
    rw [g t' (by omega) u2] at ht; rw [g t'' (by omega) u4] at ht'
    exact h.dj t' t'' u1 u3 hn' hn'' hb hb' ht ht' e
  · rw [g X.nt (by omega) (by omega)] at ht ⊢; exact h.df ht
theorem AR.ahead (hA : AR X U env τ a) (h : FR X base U μ w τ a) {t : Nat} (hn : t < X.nt) (v : AV) {U' : Nat → Prop} (hU : ∀ s, U' s ↔ U s ∨ s = t) : AR X U' env (qset X.d t τ v) a := by
  intro t' ad hu hub hf hn' hb ht
  have u1 : ¬ U t' ∧ t' ≠ t := ⟨fun e => hu ((hU _).2 (.inl e)), fun e => hu ((hU _).2 (.inr e))⟩
  rw [qget_qset _ _ _ _ _ (h.pow (by omega)) (h.pow (by omega)), if_neg u1.2] at ht
  exact hA t' ad u1.1 (fun e => hub ((hU _).2 (.inl e))) hf hn' hb ht
end
end Go.Ev

/-! Proofs, part 39: towards regions that draw: plans. -/
namespace Go.Ev
set_option linter.unusedVariables false
set_option linter.unusedSimpArgs false
section
variable {d : Nat} {ops : List Oper}
/-- what a row looks at -/
noncomputable def usesN (ops : List Oper) (n : Dn d) : List Nat := usesO ops n.r.o ++ usesC n.co
/-- what `rowOk` says -/
structure RowOK (ops : List Oper) (dn : List (Dn d)) (m : Nat) (r : Row) (co : CO d) : Prop where
  fresh : m.testBit r.i = false
  anc : Nat.land r.anc m = r.anc
  eff : ∀ n ∈ dn, n.r.eff = true → r.anc.testBit n.r.i = true
  uses : ∀ t ∈ usesO ops r.o ++ usesC co, ∀ n ∈ dn, n.r.o.dst = some t → r.anc.testBit n.r.i = true
  dst : ∀ t, r.o.dst = some t → (r.eff = false → t ∉ usesO ops r.o ++ usesC co) ∧ ∀ n ∈ dn, n.r.o.dst ≠ some t ∧ (t ∈ usesN ops n → r.eff = true ∧ r.anc.testBit n.r.i = true)
  kinde : r.eff = true → kd co ≠ 2 ∧ kd co ≠ 4 ∧ kd co ≠ 6
  kind : r.eff = false → isCtl r.o.op = false ∧ (kd co = 1 ∨ kd co = 2 ∨ kd co = 4 ∨ kd co = 6)
theorem cT_if {b : Bool} {y : Bool} (h : cT b y true = true) (hb : b = true) : y = true := by rw [hb] at h; exact h
theorem rowOk_inv {dn : List (Dn d)} {m : Nat} {r : Row} {co : CO d} (h : rowOk ops dn m r co = true) : RowOK ops dn m r co := by
  unfold rowOk at h
  rw [bA_true, bA_true, bA_true, bA_true, bA_true] at h
  obtain ⟨h1, h2, h3, h4, h5, h6⟩ := h
  refine ⟨by simpa using h1, by rw [beq_t] at h2; exact h2, fun n hn he => ?_, fun t ht n hn hd => ?_, fun t ht => ?_, fun he => ?_, fun he => ?_⟩
  · rw [List.all_eq_true] at h3
    exact cT_if (h3 n hn) he
  · rw [List.all_eq_true] at h4
    have h7 := h4 t ht
    rw [List.all_eq_true] at h7
    exact cT_if (h7 n hn) (by rw [hd]; simp)
  · rw [ht] at h5
    simp only at h5
    rw [bA_true] at h5
    refine ⟨fun he hm => ?_, fun n hn => ?_⟩
    · have h8 := h5.1
      rw [he] at h8
      have h9 : (!(usesO ops r.o ++ usesC co).contains t) = true := h8
      rw [List.contains_iff_mem.2 hm] at h9
      cases h9
    · have h8 := h5.2
      rw [List.all_eq_true] at h8
      have h9 := h8 n hn
      rw [bA_true] at h9
      refine ⟨fun e => ?_, fun hm => ?_⟩
      · have := h9.1; rw [e] at this; simp at this
      · have h10 := cT_if h9.2 (List.contains_iff_mem.2 hm)
        rw [bA_true] at h10
        exact h10
  · rw [he] at h6
    have h7 : (match (generalizing := false) co with | .new _ _ | .pnew _ | .adr _ _ => false | _ => true) = true := h6
    cases co <;> first | (cases h7; done) | simp [kd]
  · rw [he] at h6
    have h7 : (match (generalizing := false) co with | .val _ _ | .new _ _ | .pnew _ | .adr _ _ => !isCtl r.o.op | _ => false) = true := h6
    cases co with
    | val k f => exact ⟨by simpa using h7, .inl rfl⟩
    | new f mk => exact ⟨by simpa using h7, .inr (.inl rfl)⟩
    | pnew f => exact ⟨by simpa using h7, .inr (.inr (.inl rfl))⟩
    | adr a f => exact ⟨by simpa using h7, .inr (.inr (.inr rfl))⟩
    | _ => cases h7
/-- the ancestors of an operation, of the first ones -/
theorem ancs_get : ∀ (os : List Oper) (acc : List Nat) (i : Nat), i < acc.length → (ancs os acc)[i]? = acc[i]?
  | [], acc, i, h => rfl
  | o :: os, acc, i, h => by
    unfold ancs
    rw [ancs_get os _ i (by simp; omega), List.getElem?_append_left h]
theorem ancs_len : ∀ (os : List Oper) (acc : List Nat), (ancs os acc).length = acc.length + os.length
  | [], acc => rfl
  | o :: os, acc => by
    unfold ancs
    rw [ancs_len os]; simp; omega
/-- an edge, and what lies behind it -/
theorem orBits_edge {acc : List Nat} {j : Nat} : ∀ (es : List Edge), (orBits acc es).testBit j = true ↔ ∃ e ∈ es, Region.binds .any e = true ∧ (j = e.on ∨ (acc.getD e.on 0).testBit j = true)
  | [] => by simp [orBits]
  | e :: es => by
    unfold orBits
    rw [cT_eq]
    split
    · rename_i hb
      show ((2 ^ e.on ||| acc.getD e.on 0) ||| orBits acc es).testBit j = true ↔ _
      rw [Nat.testBit_or, Nat.testBit_or, Bool.or_eq_true, Bool.or_eq_true, orBits_edge es, Nat.testBit_two_pow]
      constructor
      · rintro ((h | h) | ⟨e', h1, h2, h3⟩)
        · exact ⟨e, by simp, hb, .inl (by simpa using (of_decide_eq_true h).symm)⟩
        · exact ⟨e, by simp, hb, .inr h⟩
        · exact ⟨e', by simp [h1], h2, h3⟩
      · rintro ⟨e', h1, h2, h3⟩
        rcases List.mem_cons.1 h1 with rfl | h1
        · rcases h3 with h3 | h3
          · exact .inl (.inl (decide_eq_true h3.symm))
          · exact .inl (.inr h3)
        · exact .inr ⟨e', h1, h2, h3⟩
    · rename_i hb
      rw [orBits_edge es]
      constructor
      · rintro ⟨e', h1, h2⟩; exact ⟨e', by simp [h1], h2⟩
      · rintro ⟨e', h1, h2, h3⟩
        rcases List.mem_cons.1 h1 with rfl | h1
        · exact absurd h2 hb
        · exact ⟨e', h1, h2, h3⟩
/-- the ancestors of operation i: behind each binding edge, its end and the ancestors of that -/
theorem ancs_spec : ∀ (os : List Oper) (acc : List Nat) (i : Nat) (o : Oper) (j : Nat), os[i]? = some o →
    ((((ancs os acc)[acc.length + i]?).getD 0).testBit j = true ↔ ∃ e ∈ o.after.toList, Region.binds .any e = true ∧ (j = e.on ∨ (e.on < acc.length + i ∧ (((ancs os acc)[e.on]?).getD 0).testBit j = true)))
  | [], acc, i, o, j, h => by simp at h
  | o' :: os, acc, 0, o, j, h => by
    have : o' = o := by simpa using h
    subst this
    unfold ancs
    rw [Nat.add_zero, ancs_get os _ acc.length (by simp)]
    rw [List.getElem?_append_right (Nat.le_refl _)]
    simp only [Nat.sub_self, List.getElem?_cons_zero, Option.getD_some]
    rw [orBits_edge]
    constructor
    · rintro ⟨e, h1, h2, h3⟩
      refine ⟨e, h1, h2, ?_⟩
      rcases h3 with h3 | h3
      · exact .inl h3
      · by_cases hl : e.on < acc.length
        · refine .inr ⟨hl, ?_⟩
          rw [ancs_get os _ e.on (by simp; omega), List.getElem?_append_left hl]
          rw [List.getD_eq_getElem?_getD] at h3; exact h3
        · rw [List.getD_eq_getElem?_getD, List.getElem?_eq_none (by omega)] at h3
          simp at h3
    · rintro ⟨e, h1, h2, h3⟩
      refine ⟨e, h1, h2, ?_⟩
      rcases h3 with h3 | ⟨hl, h3⟩
      · exact .inl h3
      · right
        rw [ancs_get os _ e.on (by simp; omega), List.getElem?_append_left hl] at h3
        rw [List.getD_eq_getElem?_getD]; exact h3
  | o' :: os, acc, i + 1, o, j, h => by
    unfold ancs
    have := ancs_spec os (acc ++ [orBits acc o'.after.toList]) i o j (by simpa using h)
    rw [List.length_append, List.length_singleton, show acc.length + 1 + i = acc.length + (i + 1) by omega] at this
    exact this
end
end Go.Ev

/-! Proofs, part 40: towards regions that draw: guards, what is looked at again. -/
namespace Go.Ev
set_option linter.unusedVariables false
set_option linter.unusedSimpArgs false
section
variable {X : Cx} {ops : List Oper} {τ τ' : QT X.d} {H : Heap} {K : RK X.d}
/-- is the operation wanted? none: it cannot be told -/
noncomputable def gAct (X : Cx) (ops : List Oper) (o : Oper) (τ : QT X.d) : Option Bool :=
  match o.guard with
  | none => some true
  | some (j, want) =>
    match (ops[j]?).bind (·.dst) with
    | none => none
    | some t =>
      if (cTmp X t τ).t = 1 then some want else if (cTmp X t τ).t = 0 then some (!want) else if (cTmp X t τ).t = 22 ∧ (cTmp X t τ).l = [] then some false else none
theorem runGuard_inv {g : QT X.d → AV} {want : Bool} {r s : QT X.d → Heap → RK X.d → Ans} (h : runGuard g want r s τ H K = .done) :
    ((if (g τ).t = 1 then some want else if (g τ).t = 0 then some (!want) else if (g τ).t = 22 ∧ (g τ).l = [] then some false else none) = some true ∧ r τ H K = .done) ∨
    ((if (g τ).t = 1 then some want else if (g τ).t = 0 then some (!want) else if (g τ).t = 22 ∧ (g τ).l = [] then some false else none) = some false ∧ s τ H K = .done) := by
  unfold runGuard at h
  rcases cA_cases h with ⟨h1, h2⟩ | ⟨h1, h2⟩
  · rw [beq_t] at h1
    simp only [h1, if_true]
    cases want with
    | true => exact .inl ⟨rfl, h2⟩
    | false => exact .inr ⟨rfl, h2⟩
  · have h1' : (g τ).t ≠ 1 := fun e => by rw [e] at h1; simp at h1
    rw [if_neg h1']
    rcases cA_cases h2 with ⟨h3, h4⟩ | ⟨h3, h4⟩
    · rw [beq_t] at h3
      rw [if_pos h3]
      cases want with
      | true => exact .inr ⟨rfl, h4⟩
      | false => exact .inl ⟨rfl, h4⟩
    · have h3' : (g τ).t ≠ 0 := fun e => by rw [e] at h3; simp at h3
      rw [cA_done, bA_true, beq_t, nilB_eq] at h4
      rw [if_neg h3', if_pos h4.1]
      exact .inr ⟨rfl, h4.2⟩
/-- the guard looks at what it looks at -/
theorem gAct_congr {o : Oper} (h : ∀ j want t, o.guard = some (j, want) → (ops[j]?).bind (·.dst) = some t → qget X.d t τ = qget X.d t τ') : gAct X ops o τ = gAct X ops o τ' := by
  unfold gAct
  split
  · rfl
  · rename_i j want hg
    split
    · rfl
    · rename_i t ht
      have e : cTmp X t τ = cTmp X t τ' := cOpd_congr (x := .tmp t) fun t' e => by cases e; exact h j want t hg ht
      rw [e]
theorem guard_uses {o : Oper} {j t : Nat} {want : Bool} (hg : o.guard = some (j, want)) (ht : (ops[j]?).bind (·.dst) = some t) : t ∈ usesO ops o := by
  unfold usesO
  rw [hg]
  simp [ht]
theorem opd_uses {o : Oper} {t : Nat} (h : Operand.tmp t ∈ o.op.operands.toList) : t ∈ usesO ops o := by
  unfold usesO
  refine List.mem_append_right _ ?_
  rw [List.mem_flatMap]
  exact ⟨.tmp t, h, by simp [opdL]⟩
theorem gAct_none {o : Oper} (hg : o.guard = none) : gAct X ops o τ = some true := by unfold gAct; rw [hg]
theorem gAct_of {o : Oper} {j t : Nat} {want : Bool} (hg : o.guard = some (j, want)) (ht : (ops[j]?).bind (·.dst) = some t) :
    gAct X ops o τ = (if (cTmp X t τ).t = 1 then some want else if (cTmp X t τ).t = 0 then some (!want) else if (cTmp X t τ).t = 22 ∧ (cTmp X t τ).l = [] then some false else none) := by
  unfold gAct; rw [hg]; simp only; rw [ht]
/-- an operation under its guard, taken apart -/
theorem cOp_inv {co : CO X.d} {o : Oper} {r : OpR X.d} (h : (cOp X false ops co o r).run τ H K = .done) :
    (gAct X ops o τ = some true ∧ (op1 X false co o r).run τ H K = .done) ∨ (gAct X ops o τ = some false ∧ (skipC X o.dst r).run τ H K = .done) := by
  unfold cOp at h
  split at h
  · rename_i hg
    exact .inl ⟨gAct_none hg, h⟩
  · rename_i j want hg
    split at h
    · rename_i t ht
      rw [gAct_of hg ht]
      exact runGuard_inv h
    · cases h
/-- what has been looked at again is as it was -/
theorem cVer_ok : ∀ (ns : List (Dn X.d)) (r : OpR X.d), (cVer X ops ns r).run τ H K = .done →
    r.run τ H K = .done ∧ ∀ n ∈ ns, (∃ k f t, n.co = .val k f ∧ n.r.o.dst = some t) ∧ (gAct X ops n.r.o τ = some true → ∀ k f t, n.co = .val k f → n.r.o.dst = some t → f τ H = qget X.d t τ)
  | [], r, h => ⟨h, fun n hn => by simp at hn⟩
  | n :: ns, r, h => by
    have h0 : (verC X ops n (cVer X ops ns r)).run τ H K = .done := h
    unfold verC at h0
    split at h0
    · rename_i k f t hco hd
      split at h0
      · rename_i hg
        have h1 : runVer f (slot X t) (cVer X ops ns r).run τ H K = .done := h0
        unfold runVer at h1
        rw [cA_done] at h1
        obtain ⟨k1, k2⟩ := cVer_ok ns r h1.2
        refine ⟨k1, fun n' hn' => ?_⟩
        rcases List.mem_cons.1 hn' with rfl | hn'
        · refine ⟨⟨k, f, t, hco, hd⟩, fun hga k' f' t' hco' hd' => ?_⟩
          rw [hco] at hco'; cases hco'
          rw [hd] at hd'; cases hd'
          exact avEq_eq _ _ h1.1
        · exact k2 n' hn'
      · rename_i j want hg
        split at h0
        · rename_i u hu
          have h1 : runGuard (cTmp X u) want (runVer f (slot X t) (cVer X ops ns r).run) (cVer X ops ns r).run τ H K = .done := h0
          have hgA : gAct X ops n.r.o τ = (if (cTmp X u τ).t = 1 then some want else if (cTmp X u τ).t = 0 then some (!want) else if (cTmp X u τ).t = 22 ∧ (cTmp X u τ).l = [] then some false else none) := by
            unfold gAct; rw [hg]; simp only; rw [hu]
          rcases runGuard_inv h1 with ⟨e1, e2⟩ | ⟨e1, e2⟩
          · unfold runVer at e2
            rw [cA_done] at e2
            obtain ⟨k1, k2⟩ := cVer_ok ns r e2.2
            refine ⟨k1, fun n' hn' => ?_⟩
            rcases List.mem_cons.1 hn' with rfl | hn'
            · refine ⟨⟨k, f, t, hco, hd⟩, fun hga k' f' t' hco' hd' => ?_⟩
              rw [hco] at hco'; cases hco'
              rw [hd] at hd'; cases hd'
              exact avEq_eq _ _ e2.1
            · exact k2 n' hn'
          · obtain ⟨k1, k2⟩ := cVer_ok ns r e2
            refine ⟨k1, fun n' hn' => ?_⟩
            rcases List.mem_cons.1 hn' with rfl | hn'
            · refine ⟨⟨k, f, t, hco, hd⟩, fun hga k' f' t' hco' hd' => ?_⟩
              rw [hgA, e1] at hga; cases hga
            · exact k2 n' hn'
        · cases h0
    · cases h0
end
end Go.Ev

/-! Proofs, part 41: regions that draw: the invariant. -/
namespace Go.Ev
set_option linter.unusedVariables false
set_option linter.unusedSimpArgs false
section
variable {X : Cx} {μ μ0 : Mu} {w w0 : World} {H H0 : Heap} {τ : QT X.d} {a : Act} {rd : Option Nat} {K : RK X.d} {ops : List Oper}
/-- the temporaries of rows that the evaluator has done and the machine has not -/
def unl (dn : List (Dn X.d)) (L : Nat → Bool) : Nat → Prop := fun t => ∃ n ∈ dn, L n.r.i = false ∧ n.r.o.dst = some t
/-- what a row has left, that the evaluator has done and the machine has not -/
def LeftOK (X : Cx) (ops : List Oper) (ns : Nat) (β : Nat → Nat) (μ : Mu) (H : Heap) (τ : QT X.d) (n : Dn X.d) : Prop :=
  (gAct X ops n.r.o τ = some false ∧ ∀ t, n.r.o.dst = some t → t < X.nt ∧ qget X.d t τ = undefA) ∨
  (gAct X ops n.r.o τ = some true ∧ match n.co with
    | .val _ f => Ok (f τ H) ∧ ∀ t, n.r.o.dst = some t → isPlain X t = true ∧ qget X.d t τ = f τ H
    | .new f mk => (f τ).t ≠ 0 ∧ ns ≤ β n.r.i ∧ β n.r.i < H.nx ∧ μ (β n.r.i) = none ∧ hget H (β n.r.i) = f τ ∧ ∀ t, n.r.o.dst = some t → isPlain X t = true ∧ qget X.d t τ = mk (β n.r.i)
    | .pnew f => ∀ t, n.r.o.dst = some t → t < X.nt ∧ X.pb.testBit t = true ∧ (f τ).t = 21 ∧ qget X.d t τ = f τ
    | .adr ad f => n.r.o.dst = some ad.t ∧ ad.t < X.nt ∧ X.ad.testBit ad.t = true ∧ X.pb.testBit ad.t = false ∧ (f τ).t = 1 ∧ qget X.d ad.t τ = f τ
    | _ => False)
/-- the rows that are done: newest first; env: the addresses known when a row was compiled -/
inductive Done (X : Cx) (ops : List Oper) : List Ad → List (Dn X.d) → Nat → Prop
  | nil : Done X ops [] [] 0
  | cons {env : List Ad} {dn : List (Dn X.d)} {m : Nat} {r : Row} (h : Done X ops env dn m) (hr : RowOK ops dn m r (cCO X env r.o)) (he : envFree env r.o.dst = true) :
      Done X ops (envOf (cCO X env r.o) env) (⟨r, cCO X env r.o⟩ :: dn) (Nat.lor m (Nat.pow 2 r.i))
/-- the invariant -/
structure DJ (X : Cx) (ops : List Oper) (rd : Option Nat) (μ0 : Mu) (H0 : Heap) (w0 : World) (ns : Nat) (env : List Ad) (dn : List (Dn X.d)) (L : Nat → Bool) (β : Nat → Nat) (μ : Mu) (H : Heap) (w : World) (τ : QT X.d) (a : Act) : Prop where
  R : ∀ env', env' <:+ env → RelU X env' w0.heap.size (unl dn L) μ H w τ a
  E : Ext X.ro μ0 H0 w0 μ H w
  D : rd.isSome = true → (qget X.d X.nt τ).t ≠ 22
  nsb : H0.nx ≤ ns ∧ ns ≤ H.nx
  eff : ∀ n ∈ dn, n.r.eff = true → L n.r.i = true
  sub : ∀ i, L i = true → ∃ n ∈ dn, n.r.i = i
  clo : ∀ n ∈ dn, L n.r.i = true → ∀ j, n.r.anc.testBit j = true → L j = true
  left : ∀ n ∈ dn, L n.r.i = false → LeftOK X ops ns β μ H τ n
  inj : ∀ n ∈ dn, ∀ n' ∈ dn, L n.r.i = false → L n'.r.i = false → β n.r.i = β n'.r.i → ((∃ f mk, n.co = .new f mk) ∧ gAct X ops n.r.o τ = some true) → ((∃ f mk, n'.co = .new f mk) ∧ gAct X ops n'.r.o τ = some true) → n.r.i = n'.r.i
theorem Done.suffix {env : List Ad} {dn : List (Dn X.d)} {m : Nat} (h : Done X ops env dn m) : ∀ n ∈ dn, ∃ env' dn' m', env' <:+ env ∧ n.co = cCO X env' n.r.o ∧ envFree env' n.r.o.dst = true ∧ RowOK ops dn' m' n.r n.co ∧ dn' <:+ dn := by
  induction h with
  | nil => intro n hn; simp at hn
  | @cons env dn m r h hr he ih =>
    intro n hn
    have hs : env <:+ envOf (cCO X env r.o) env := by
      unfold envOf
      split
      · exact List.suffix_cons _ _
      · exact List.suffix_refl _
    rcases List.mem_cons.1 hn with rfl | hn
    · exact ⟨env, dn, m, hs, rfl, he, hr, List.suffix_cons _ _⟩
    · obtain ⟨env', dn', m', k1, k2, k3, k4, k5⟩ := ih n hn
      exact ⟨env', dn', m', k1.trans hs, k2, k3, k4, k5.trans (List.suffix_cons _ _)⟩
end
end Go.Ev

/-! Proofs, part 42: regions that draw: a row is listed. -/
namespace Go.Ev
set_option linter.unusedVariables false
set_option linter.unusedSimpArgs false
section
variable {X : Cx} {μ μ' μ0 : Mu} {w w' w0 : World} {H H0 : Heap} {τ : QT X.d} {a a' : Act} {rd : Option Nat} {K : RK X.d} {ops : List Oper} {env : List Ad} {dn : List (Dn X.d)} {m ns : Nat} {L : Nat → Bool} {β : Nat → Nat}
theorem Done.mask (h : Done X ops env dn m) (j : Nat) : m.testBit j = true ↔ ∃ n ∈ dn, n.r.i = j := by
  induction h with
  | nil => simp
  | @cons env dn m r h hr he ih =>
    show (m ||| 2 ^ r.i).testBit j = true ↔ _
    rw [Nat.testBit_or, Bool.or_eq_true, ih, Nat.testBit_two_pow]
    constructor
    · rintro (⟨n, h1, h2⟩ | h1)
      · exact ⟨n, by simp [h1], h2⟩
      · exact ⟨⟨r, cCO X env r.o⟩, by simp, of_decide_eq_true h1⟩
    · rintro ⟨n, h1, h2⟩
      rcases List.mem_cons.1 h1 with rfl | h1
      · exact .inr (decide_eq_true h2)
      · exact .inl ⟨n, h1, h2⟩
theorem Done.same (h : Done X ops env dn m) : ∀ n ∈ dn, ∀ n' ∈ dn, n.r.i = n'.r.i → n = n' := by
  induction h with
  | nil => intro n hn; simp at hn
  | @cons env dn m r h hr he ih =>
    intro n hn n' hn' e
    have fresh : ∀ k ∈ dn, k.r.i ≠ r.i := fun k hk e => by
      have := (h.mask r.i).2 ⟨k, hk, e⟩
      rw [hr.fresh] at this; cases this
    rcases List.mem_cons.1 hn with rfl | hn <;> rcases List.mem_cons.1 hn' with rfl | hn'
    · rfl
    · exact absurd e.symm (fresh n' hn')
    · exact absurd e (fresh n hn)
    · exact ih n hn n' hn' e
/-- each temporary is written by one row -/
theorem Done.dst (h : Done X ops env dn m) : ∀ n ∈ dn, ∀ n' ∈ dn, ∀ t, n.r.o.dst = some t → n'.r.o.dst = some t → n = n' := by
  induction h with
  | nil => intro n hn; simp at hn
  | @cons env dn m r h hr he ih =>
    intro n hn n' hn' t e e'
    rcases List.mem_cons.1 hn with rfl | hn <;> rcases List.mem_cons.1 hn' with rfl | hn'
    · rfl
    · exact absurd e' ((hr.dst t e).2 n' hn').1
    · exact absurd e ((hr.dst t e').2 n hn).1
    · exact ih n hn n' hn' t e e'
/-- what a row that is done looks at, and what must come ahead of it -/
theorem Done.uses (h : Done X ops env dn m) : ∀ n ∈ dn, n.r.eff = false → ∀ t ∈ usesN ops n, ∀ n' ∈ dn, n'.r.o.dst = some t → n'.r.eff = true ∧ True ∨ n.r.anc.testBit n'.r.i = true := by
  induction h with
  | nil => intro n hn; simp at hn
  | @cons env dn m r h hr he ih =>
    intro n hn hne t ht n' hn' e
    rcases List.mem_cons.1 hn with rfl | hn <;> rcases List.mem_cons.1 hn' with rfl | hn'
    · exact absurd ht ((hr.dst t e).1 hne)
    · exact .inr (hr.uses t ht n' hn' e)
    · exact .inl ⟨(((hr.dst t e).2 n hn).2 ht).1, trivial⟩
    · exact ih n hn hne t ht n' hn' e
/-- i is listed too -/
def addL (L : Nat → Bool) (i : Nat) : Nat → Bool := fun j => L j || j == i
theorem addL_f {i j : Nat} : addL L i j = false ↔ L j = false ∧ j ≠ i := by
  unfold addL
  rw [Bool.or_eq_false_iff]
  simp
theorem addL_t {i j : Nat} : addL L i j = true ↔ L j = true ∨ j = i := by
  unfold addL
  rw [Bool.or_eq_true]
  simp
/-- what is unknown then -/
theorem unl_add (hd : Done X ops env dn m) {n : Dn X.d} (hn : n ∈ dn) (hl : L n.r.i = false) {t : Nat} (ht : n.r.o.dst = some t) : unl dn (addL L n.r.i) = offU (unl dn L) t := by
  funext s
  apply propext
  constructor
  · rintro ⟨n', h1, h2, h3⟩
    obtain ⟨h4, h5⟩ := addL_f.1 h2
    refine ⟨⟨n', h1, h4, h3⟩, fun e => ?_⟩
    subst e
    exact h5 (by rw [hd.dst n' h1 n hn s h3 ht])
  · rintro ⟨⟨n', h1, h2, h3⟩, h4⟩
    refine ⟨n', h1, addL_f.2 ⟨h2, fun e => ?_⟩, h3⟩
    have := hd.same n' h1 n hn e
    subst this
    rw [ht] at h3
    exact h4 (Option.some.inj h3).symm
theorem unl_none (hd : Done X ops env dn m) {n : Dn X.d} (hn : n ∈ dn) (ht : n.r.o.dst = none) : unl dn (addL L n.r.i) = unl dn L := by
  funext s
  apply propext
  constructor
  · rintro ⟨n', h1, h2, h3⟩
    exact ⟨n', h1, (addL_f.1 h2).1, h3⟩
  · rintro ⟨n', h1, h2, h3⟩
    refine ⟨n', h1, addL_f.2 ⟨h2, fun e => ?_⟩, h3⟩
    have := hd.same n' h1 n hn e
    subst this
    rw [ht] at h3; cases h3
theorem DJ.listed (h : DJ X ops rd μ0 H0 w0 ns env dn L β μ H w τ a) (hd : Done X ops env dn m) {n : Dn X.d} (hn : n ∈ dn) (ha : ∀ j, n.r.anc.testBit j = true → L j = true)
    (hR : ∀ env', env' <:+ env → RelU X env' w0.heap.size (unl dn (addL L n.r.i)) μ' H w' τ a') (hE : Ext X.ro μ0 H0 w0 μ' H w')
    (hl : ∀ n' ∈ dn, L n'.r.i = false → n'.r.i ≠ n.r.i → LeftOK X ops ns β μ' H τ n') : DJ X ops rd μ0 H0 w0 ns env dn (addL L n.r.i) β μ' H w' τ a' where
  R := hR
  E := hE
  D := h.D
  nsb := h.nsb
  eff := fun n' hn' he => addL_t.2 (.inl (h.eff n' hn' he))
  sub := fun i hi => by
    rcases addL_t.1 hi with hi | rfl
    · exact h.sub i hi
    · exact ⟨n, hn, rfl⟩
  clo := fun n' hn' hi j hj => by
    rcases addL_t.1 hi with hi | e
    · exact addL_t.2 (.inl (h.clo n' hn' hi j hj))
    · have := hd.same n' hn' n hn e
      subst this
      exact addL_t.2 (.inl (ha j hj))
  left := fun n' hn' hi => by
    obtain ⟨h1, h2⟩ := addL_f.1 hi
    exact hl n' hn' h1 h2
  inj := fun n1 h1 n2 h2 l1 l2 e k1 k2 => h.inj n1 h1 n2 h2 (addL_f.1 l1).1 (addL_f.1 l2).1 e k1 k2
/-- what a row that may come now looks at is known -/
theorem DJ.usesOk (h : DJ X ops rd μ0 H0 w0 ns env dn L β μ H w τ a) (hd : Done X ops env dn m) {n : Dn X.d} (hn : n ∈ dn) (hl : L n.r.i = false) (ha : ∀ j, n.r.anc.testBit j = true → L j = true) :
    ∀ t ∈ usesN ops n, ¬ unl dn L t := by
  rintro t ht ⟨n', h1, h2, h3⟩
  have hne : n.r.eff = false := by
    cases he : n.r.eff with
    | false => rfl
    | true => rw [h.eff n hn he] at hl; cases hl
  rcases hd.uses n hn hne t ht n' h1 h3 with ⟨h4, _⟩ | h4
  · rw [h.eff n' h1 h4] at h2; cases h2
  · rw [ha _ h4] at h2; cases h2
end
end Go.Ev

/-! Proofs, part 43: regions that draw: a row that the evaluator has done is done by the machine. -/
namespace Go.Ev
set_option linter.unusedVariables false
set_option linter.unusedSimpArgs false
section
variable {X : Cx} {μ μ' μ0 : Mu} {w w' w0 : World} {H H0 : Heap} {τ : QT X.d} {a a' : Act} {rd : Option Nat} {K : RK X.d} {env env' : List Ad} {m ns base : Nat} {L : Nat → Bool} {β : Nat → Nat} {U : Nat → Prop}
theorem AR.list' (hA : AR X U env τ a) (h : FR X base U μ w τ a) {t : Nat} (hn : t < X.nt) {x : Value} (h1 : (qget X.d t τ).t ≠ 1 ∨ X.ad.testBit t = false) (hbx : ∀ t' ad, findAd t' env = some ad → ad.box = t → offU U t t') :
    AR X (offU U t) env τ (a.put (some t) x) := by
  intro t' ad hu hub hf hn' hb ht
  have hne : t' ≠ t := fun e => by
    rw [e] at ht hb
    rcases h1 with h2 | h2
    · exact h2 ht
    · rw [h2] at hb; cases hb
  have hnb : ad.box ≠ t := fun e => hu (hbx t' ad hf e)
  obtain ⟨c, k1, k2⟩ := hA t' ad (fun hu' => hu ⟨hu', hne⟩) (fun hu' => hub ⟨hu', hnb⟩) hf hn' hb ht
  refine ⟨c, ?_, ?_⟩
  · rw [put_getD _ _ _ _ (by rw [h.sz]; exact hn), if_neg hnb]; exact k1
  · rw [put_getD _ _ _ _ (by rw [h.sz]; exact hn), if_neg hne]; exact k2
variable {ops : List Oper} {dn : List (Dn X.d)}
theorem Done.addr (h : Done X ops env dn m) : ∀ ad ∈ env, ∃ n ∈ dn, (∃ f, n.co = .adr ad f) ∧ n.r.o.dst = some ad.t := by
  induction h with
  | nil => intro ad had; simp at had
  | @cons env dn m r h hr he ih =>
    intro ad had
    have old : ad ∈ env → ∃ n ∈ (⟨r, cCO X env r.o⟩ :: dn : List (Dn X.d)), (∃ f, n.co = CO.adr ad f) ∧ n.r.o.dst = some ad.t := fun h1 => by
      obtain ⟨n, k1, k2, k3⟩ := ih ad h1
      exact ⟨n, List.mem_cons_of_mem _ k1, k2, k3⟩
    unfold envOf at had
    split at had
    · rename_i ad' f hco
      rcases List.mem_cons.1 had with rfl | had
      · obtain ⟨t, x, i, p, fl, d, _, _, _, hd, _, e1, _⟩ := cCO_adr hco
        exact ⟨⟨r, cCO X env r.o⟩, by simp, ⟨f, hco⟩, by rw [hd, e1]⟩
      · exact old had
    · exact old had
/-- a derived address of a box that is not yet made is not yet made -/
theorem DJ.box (h : DJ X ops rd μ0 H0 w0 ns env dn L β μ H w τ a) (hd : Done X ops env dn m) {n : Dn X.d} (hn : n ∈ dn) (hl : L n.r.i = false) {t : Nat} (ht : n.r.o.dst = some t) (hs : env' <:+ env) :
    ∀ t' ad, findAd t' env' = some ad → ad.box = t → offU (unl dn L) t t' := by
  intro t' ad hf hb
  have had := hs.subset (findAd_mem hf)
  have et := findAd_t hf
  obtain ⟨n2, k1, ⟨f, k2⟩, k3⟩ := hd.addr ad had
  have hu : t ∈ usesN ops n2 := by
    unfold usesN
    refine List.mem_append_right _ ?_
    rw [k2]; simp [usesC, hb]
  have hne : n2.r.eff = false → n2.r.i ≠ n.r.i := fun he e => by
    have := hd.same n2 k1 n hn e
    subst this
    obtain ⟨env2, dn2, m2, q1, q2, q3, q4, q5⟩ := hd.suffix n2 k1
    exact absurd hu ((q4.dst t ht).1 he)
  have he2 : n2.r.eff = false := by
    cases he : n2.r.eff with
    | false => rfl
    | true =>
      exfalso
      obtain ⟨env2, dn2, m2, q1, q2, q3, q4, q5⟩ := hd.suffix n2 k1
      exact (q4.kinde he).2.2 (by rw [k2]; rfl)
  have hun : L n2.r.i = false := by
    cases hL : L n2.r.i with
    | false => rfl
    | true =>
      rcases hd.uses n2 k1 he2 t hu n hn ht with ⟨h4, _⟩ | h4
      · rw [h.eff n hn h4] at hl; cases hl
      · rw [h.clo n2 k1 hL _ h4] at hl; cases hl
  refine ⟨⟨n2, k1, hun, by rw [k3, et]⟩, fun e => ?_⟩
  have : n2.r.o.dst = some t := by rw [k3, et, e]
  exact hne he2 (by rw [hd.dst n2 k1 n hn t this ht])
end
end Go.Ev

/-! Proofs, part 44: regions that draw: a row that the evaluator has done is done by the machine (2). -/
namespace Go.Ev
set_option linter.unusedVariables false
set_option linter.unusedSimpArgs false
section
variable {X : Cx} {μ μ' μ0 : Mu} {w w' w0 : World} {H H0 : Heap} {τ : QT X.d} {a a' : Act} {rd : Option Nat} {K : RK X.d} {env env' : List Ad} {m ns base : Nat} {L : Nat → Bool} {β : Nat → Nat} {U : Nat → Prop} {dn : List (Dn X.d)} {ops : Array Oper} {o : Oper}
/-- the guard's answer, where not all is known -/
theorem guard_okU (h : RelU X env base U μ H w τ a) {b : Bool} (hg : gAct X ops.toList o τ = some b) (hU : ∀ t ∈ usesO ops.toList o, ¬ U t) : Region.wanted o (yielded ops a.tmps) = b := by
  cases hgu : o.guard with
  | none =>
    rw [gAct_none hgu] at hg
    unfold Region.wanted
    rw [hgu]
    exact Option.some.inj hg
  | some p =>
    obtain ⟨j, want⟩ := p
    cases ht : (ops.toList[j]?).bind (·.dst) with
    | none =>
      unfold gAct at hg
      rw [hgu] at hg
      simp only at hg
      rw [ht] at hg
      cases hg
    | some t =>
      rw [gAct_of hgu ht] at hg
      have hnu : ¬ U t := hU t (guard_uses hgu ht)
      have hw : Region.wanted o (yielded ops a.tmps) = (yielded ops a.tmps j == some want) := by unfold Region.wanted; rw [hgu]
      have key : Ok (cTmp X t τ) → VR μ (cTmp X t τ) (a.tmps.getD t undef) ∧ a.tmps[t]? = some (a.tmps.getD t undef) := by
        intro hok
        have hv := cOpd_rel (o := .tmp t) h.hF h.hG (fun t' e => by cases e; exact hnu) hok
        refine ⟨hv, ?_⟩
        have hp : isPlain X t = true := by
          cases hp : isPlain X t with
          | true => rfl
          | false =>
            have e : cTmp X t τ = vX := by unfold cTmp; rw [hp]; rfl
            rw [e] at hok; simp at hok
        have hlt : t < a.tmps.size := by rw [h.hF.sz]; exact (isPlain_inv hp).1
        rw [Array.getD_eq_getD_getElem?, Array.getElem?_eq_getElem hlt]
        rfl
      have hy : yielded ops a.tmps j = match a.tmps[t]? with | some (.bool b) => some b | _ => none := by
        unfold yielded
        rw [← Array.getElem?_toList, ht]
        rfl
      rw [hw]
      by_cases h1 : (cTmp X t τ).t = 1
      · rw [if_pos h1] at hg
        obtain ⟨k1, k2⟩ := key (ok3 h1 (by decide))
        rw [hy, k2, k1.inv_t h1, ← Option.some.inj hg]
        cases want <;> rfl
      · rw [if_neg h1] at hg
        by_cases h0 : (cTmp X t τ).t = 0
        · rw [if_pos h0] at hg
          obtain ⟨k1, k2⟩ := key (ok3 h0 (by decide))
          rw [hy, k2, k1.inv_f h0, ← Option.some.inj hg]
          cases want <;> rfl
        · rw [if_neg h0] at hg
          by_cases h22 : (cTmp X t τ).t = 22 ∧ (cTmp X t τ).l = []
          · rw [if_pos h22] at hg
            obtain ⟨k1, k2⟩ := key (ok3 h22.1 (by decide))
            obtain ⟨xs, e1, _⟩ := k1.inv_tup h22.1
            rw [hy, k2, e1, ← Option.some.inj hg]
            rfl
          · rw [if_neg h22] at hg; cases hg
/-- U for a row's operands -/
theorem uses_ok {n : Dn X.d} (hU : ∀ t ∈ usesN ops.toList n, ¬ U t) : UsesOk U n.r.o := fun x hx t e => hU t (by
  unfold usesN
  refine List.mem_append_left _ ?_
  subst e
  exact opd_uses hx)
end
end Go.Ev

/-! Proofs, part 45: regions that draw: a row that the evaluator has done is done by the machine (3). -/
namespace Go.Ev
set_option linter.unusedVariables false
set_option linter.unusedSimpArgs false
section
variable {X : Cx} {μ μ' μ0 : Mu} {w w' w0 : World} {H H0 : Heap} {τ : QT X.d} {a a' : Act} {rd : Option Nat} {K : RK X.d} {env env' : List Ad} {m ns base : Nat} {L : Nat → Bool} {β : Nat → Nat} {U : Nat → Prop} {dn : List (Dn X.d)} {ops : Array Oper} {o : Oper}
theorem BoxR.appear {v : AV} {c b : Nat} {mb : MB} {ob : Obj} (h : BoxR base μ w v c) (hb : μ b = none) (hc : mb.c = w.heap.size) : BoxR base (μ.put b mb) (w.alloc ob) v c := by
  have hlt := h.lt
  obtain ⟨cs, e, h1, h2, h3, h4⟩ := h.ex
  refine ⟨h.ge, ⟨cs, e, by rw [alloc_get, if_neg (by omega)]; exact h1, h2.mono (Mu.put_le hb), h3, h4⟩, fun b' m' hb' e' => ?_⟩
  by_cases eb : b' = b
  · subst eb
    have : m' = mb := by simpa [Mu.put] using hb'.symm
    subst this
    omega
  · exact h.un b' m' (by simpa [Mu.put, eb] using hb') e'
theorem FR.appear {b : Nat} {mb : MB} {ob : Obj} (h : FR X base U μ w τ a) (hb : μ b = none) (hc : mb.c = w.heap.size) : FR X base U (μ.put b mb) (w.alloc ob) τ a :=
  ⟨h.sz, h.dp, fun t hu hp ho => (h.tm t hu hp ho).mono (Mu.put_le hb), fun t hu hn hp ht => let ⟨c, h1, h2⟩ := h.bx t hu hn hp ht; ⟨c, h1, h2.appear hb hc⟩, h.dj, fun ht => (h.df ht).mono (Mu.put_le hb)⟩
theorem late_ok {n : Dn X.d} {next : Act → World → Prop} {Q : Exit → Act → World → Prop} (h : DJ X ops.toList rd μ0 H0 w0 ns env dn L β μ H w τ a) (hd : Done X ops.toList env dn m) (hn : n ∈ dn) (hl : L n.r.i = false)
    (ha : ∀ j, n.r.anc.testBit j = true → L j = true) (hnext : ∀ μ' w' a', DJ X ops.toList rd μ0 H0 w0 ns env dn (addL L n.r.i) β μ' H w' τ a' → next a' w') :
    if Region.wanted n.r.o (yielded ops a.tmps) = true then n.r.o.wpIn (Fr rd) 0 X.P a w next Q else (∀ f, n.r.o.about X.P w a.eval = some f → (Fr rd).fn f) ∧ next (a.put n.r.o.dst undef) w := by
  have hu := h.usesOk hd hn hl ha
  obtain ⟨env1, dn1, m1, hs, hco, hef, hrow, _⟩ := hd.suffix n hn
  have R1 := h.R env1 hs
  have hne : n.r.eff = false := by
    cases he : n.r.eff with
    | false => rfl
    | true => rw [h.eff n hn he] at hl; cases hl
  have hgu : ∀ {b}, gAct X ops.toList n.r.o τ = some b → Region.wanted n.r.o (yielded ops a.tmps) = b := fun hg => guard_okU R1 hg fun t ht => hu t (by unfold usesN; exact List.mem_append_left _ ht)
  -- a row that leaves the heap and the world as they are
  have still : ∀ x : Value, (∀ t, n.r.o.dst = some t → t < X.nt ∧ (isPlain X t = true → Ok (qget X.d t τ) → VR μ (qget X.d t τ) x) ∧ ((qget X.d t τ).t ≠ 21 ∨ X.pb.testBit t = false) ∧ ((qget X.d t τ).t ≠ 1 ∨ X.ad.testBit t = false)) →
      next (a.put n.r.o.dst x) w := by
    intro x hx
    refine hnext μ w _ (h.listed hd hn ha (fun env' hs' => ?_) h.E fun n' h1 h2 h3 => h.left n' h1 h2)
    have R := h.R env' hs'
    cases hdst : n.r.o.dst with
    | none => rw [unl_none hd hn hdst]; exact R
    | some t =>
      obtain ⟨k1, k2, k3, k4⟩ := hx t hdst
      rw [unl_add hd hn hl hdst]
      exact ⟨R.hF.list k1 k2 k3, R.hA.list' R.hF k1 k4 (h.box hd hn hl hdst hs'), R.hE, R.hG, R.hH, R.hb⟩
  rcases h.left n hn hl with ⟨g0, k⟩ | ⟨g1, k⟩
  · have hw := hgu g0
    rw [if_neg (by rw [hw]; decide)]
    refine ⟨fun _ _ => trivial, still undef fun t ht => ?_⟩
    obtain ⟨k1, k2⟩ := k t ht
    rw [k2]
    exact ⟨k1, fun _ _ => .undef, .inl (by decide), .inl (by decide)⟩
  · have hw := hgu g1
    rw [if_pos hw]
    have hnc : isCtl n.r.o.op = false := (hrow.kind hne).1
    have hsem : n.r.o.semAt rd a.eval = execOp a.eval n.r.o := Oper.semAt_eq _ _ _ fun c' e => by rw [e] at hnc; cases hnc
    refine ⟨fun _ _ => trivial, ?_⟩
    show n.r.o.uponIn (Fr rd) 0 X.P a next Q ((n.r.o.semAt rd a.eval).run X.P w)
    rw [hsem]
    have hU := uses_ok hu
    cases hc : n.co with
    | val kk f =>
      rw [hc] at k
      obtain ⟨ok, k2⟩ := k
      obtain ⟨x, e1, e2⟩ := val_sound R1 hU (fun b e => hu b (by unfold usesN; refine List.mem_append_right _ ?_; rw [hc]; unfold usesC; simp only; rw [e]; simp [cT_eq])) (hco ▸ hc) ok
      rw [e1, Oper.uponIn_value]
      refine still x fun t ht => ?_
      obtain ⟨p1, p2⟩ := k2 t ht
      obtain ⟨q1, q2, q3⟩ := isPlain_inv p1
      exact ⟨q1, fun _ _ => by rw [p2]; exact e2, .inr q2, .inr q3⟩
    | new f mk =>
      rw [hc] at k
      obtain ⟨k1, k2, k3, k4, k5, k6⟩ := k
      obtain ⟨x, ob, mb, e1, e2⟩ := new_sound R1 hU (hco ▸ hc) k1
      rw [e1, Oper.uponIn_value]
      have hle := Mu.put_le (m := mb) k4
      refine hnext (μ.put (β n.r.i) mb) _ _ (h.listed hd hn ha (fun env' hs' => ?_) (h.E.appear k4 (Nat.le_trans h.nsb.1 k2) e2.c R1.hH) fun n' h1 h2 h3 => ?_)
      · have R := h.R env' hs'
        have hH' := R.hH.appear (o := ob) k4 k3 e2.c (by rw [k5]; exact e2.br.mono hle)
        have hG' : GR X.ro (μ.put (β n.r.i) mb) H := fun g hg => by
          obtain ⟨⟨m1, p1, p2⟩, p3⟩ := R.hG g hg
          exact ⟨⟨m1, hle _ _ p1, p2⟩, p3⟩
        have hF' := R.hF.appear (ob := ob) k4 e2.c
        have hb' : w0.heap.size ≤ (w.alloc ob).heap.size := by have := R.hb; simp; omega
        cases hdst : n.r.o.dst with
        | none => rw [unl_none hd hn hdst]; exact ⟨hF', R.hA, R.hE, hG', hH', hb'⟩
        | some t =>
          obtain ⟨p1, p2⟩ := k6 t hdst
          obtain ⟨q1, q2, q3⟩ := isPlain_inv p1
          rw [unl_add hd hn hl hdst]
          exact ⟨hF'.list q1 (fun _ _ => by rw [p2]; exact e2.v _ _ (by simp [Mu.put])) (.inr q2), R.hA.list' hF' q1 (.inr q3) (h.box hd hn hl hdst hs'), R.hE, hG', hH', hb'⟩
      · rcases h.left n' h1 h2 with hh | ⟨hh, kk⟩
        · exact .inl hh
        · refine .inr ⟨hh, ?_⟩
          cases hc' : n'.co with
          | new f' mk' =>
            rw [hc'] at kk
            obtain ⟨p1, p2, p3, p4, p5, p6⟩ := kk
            refine ⟨p1, p2, p3, ?_, p5, p6⟩
            have : β n'.r.i ≠ β n.r.i := fun e => h3 (h.inj n' h1 n hn h2 hl e ⟨⟨f', mk', hc'⟩, hh⟩ ⟨⟨f, mk, hc⟩, g1⟩)
            simpa [Mu.put, this] using p4
          | val _ _ => rw [hc'] at kk; exact kk
          | pnew _ => rw [hc'] at kk; exact kk
          | adr _ _ => rw [hc'] at kk; exact kk
          | _ => rw [hc'] at kk; exact kk.elim
    | pnew f =>
      rw [hc] at k
      obtain ⟨t, hdst, _⟩ := cCO_pnew (hco ▸ hc : cCO X env1 n.r.o = .pnew f)
      obtain ⟨k1, k2, k3, k4⟩ := k t hdst
      obtain ⟨d, ob, p1, p2, p3, p4⟩ := pnew_sound R1 hU (hco ▸ hc) k3
      rw [hdst] at p1; cases p1
      rw [p3, Oper.uponIn_value, hdst]
      obtain ⟨g1', g2'⟩ := R1.hH.priv (ro := X.ro) ob
      refine hnext μ _ _ (h.listed hd hn ha (fun env' hs' => ?_) (h.E.trans g2') fun n' h1 h2 h3 => h.left n' h1 h2)
      have R := h.R env' hs'
      rw [unl_add hd hn hl hdst]
      refine ⟨R.hF.listBox k1 k2 (by rw [k4]; exact p4) (fun c' h1 h2 => by rw [alloc_get, if_neg (by omega)]) (Nat.le_refl _), R.hA.list' R.hF k1 (.inl (by rw [k4, k3]; decide)) (h.box hd hn hl hdst hs'), R.hE, R.hG.ext g2', g1', Nat.le_trans R.hb g2'.sz⟩
    | adr ad f =>
      rw [hc] at k
      obtain ⟨k1, k2, k3, k4, k5, k6⟩ := k
      obtain ⟨c, e1, e2, e3, e4, e5⟩ := adr_sound R1 hU (hu ad.box (by unfold usesN; refine List.mem_append_right _ ?_; rw [hc]; simp [usesC])) (hco ▸ hc) k5
      rw [e5, Oper.uponIn_value, e1]
      have hne' : ad.box ≠ ad.t := fun e => by rw [e, k4] at e3; cases e3
      refine hnext μ w _ (h.listed hd hn ha (fun env' hs' => ?_) h.E fun n' h1 h2 h3 => h.left n' h1 h2)
      have R := h.R env' hs'
      rw [unl_add hd hn hl k1]
      have hsz : ad.t < a.tmps.size := by rw [R.hF.sz]; exact k2
      refine ⟨R.hF.list k2 (fun hp => by have := (isPlain_inv hp).2.2; rw [k3] at this; cases this) (.inr k4), ?_, R.hE, R.hG, R.hH, R.hb⟩
      intro t' ad' hu' hub hf hn' hb ht
      by_cases et : t' = ad.t
      · subst et
        have had := hs'.subset (findAd_mem hf)
        obtain ⟨n2, q1, ⟨f2, q2⟩, q3⟩ := hd.addr ad' had
        rw [findAd_t hf] at q3
        have := hd.dst n2 q1 n hn _ q3 k1
        subst this
        rw [hc] at q2
        cases q2
        refine ⟨c, ?_, ?_⟩
        · rw [put_getD _ _ _ _ hsz, if_neg hne']; exact e4
        · rw [put_getD _ _ _ _ hsz, if_pos rfl]
      · have hnb : ad'.box ≠ ad.t := fun e => hu' (h.box hd hn hl k1 hs' t' ad' hf e)
        obtain ⟨c', q1, q2⟩ := R.hA t' ad' (fun hu2 => hu' ⟨hu2, et⟩) (fun hu2 => hub ⟨hu2, hnb⟩) hf hn' hb ht
        refine ⟨c', ?_, ?_⟩
        · rw [put_getD _ _ _ _ hsz, if_neg hnb]; exact q1
        · rw [put_getD _ _ _ _ hsz, if_neg et]; exact q2
    | _ => rw [hc] at k; exact k.elim
end
end Go.Ev

/-! Proofs, part 46: regions that draw: what a row has left stays. -/
namespace Go.Ev
set_option linter.unusedVariables false
set_option linter.unusedSimpArgs false
section
variable {X : Cx} {μ : Mu} {H H' : Heap} {τ τ' : QT X.d} {ns : Nat} {β β' : Nat → Nat} {ops : List Oper} {env : List Ad}
theorem new_congr {o : Oper} {f : QT X.d → AB} {mk : Nat → AV} (h : cCO X env o = .new f mk) (ho : ∀ x ∈ o.op.operands.toList, cOpd X x τ = cOpd X x τ') : f τ = f τ' := by
  rcases cCO_new h with ⟨t, z, cs, hop, hz, rfl, rfl⟩ | ⟨e, x, hop, rfl, rfl⟩ | ⟨t, len, ps, hop, h⟩ | ⟨t, hop, rfl, rfl⟩
  · rfl
  · show boxB (cOpd X x τ) = boxB (cOpd X x τ')
    rw [ho x (by rw [hop]; simp [Op.operands])]
  · unfold bsliceCO at h
    split at h
    · cases h
    · split at h
      · cases h
      · rename_i s zs hz
        rw [cT_eq] at h
        split at h
        · obtain ⟨rfl, rfl⟩ := new_inj h
          have hps : ∀ q ∈ ps.toList, cOpd X q.2 τ = cOpd X q.2 τ' := fun q hq => ho q.2 (by rw [hop]; simp [Op.operands]; exact ⟨q.1, by simpa using hq⟩)
          have k1 : ∀ l : List (Nat × Operand), (∀ q ∈ l, cOpd X q.2 τ = cOpd X q.2 τ') → elOk s (l.map fun p => (⟨p.1, cOpd X p.2⟩ : Et X.d)) τ = elOk s (l.map fun p => (⟨p.1, cOpd X p.2⟩ : Et X.d)) τ' := by
            intro l
            induction l with
            | nil => intro _; rfl
            | cons p l ih =>
              intro hq
              show bA (cellsOk (cOpd X p.2 τ) s) (elOk s _ τ) = bA (cellsOk (cOpd X p.2 τ') s) (elOk s _ τ')
              rw [hq p (by simp), ih fun q hq' => hq q (by simp [hq'])]
          have k2 : ∀ (l : List (Nat × Operand)) (t0 : HT (List AV)), (∀ q ∈ l, cOpd X q.2 τ = cOpd X q.2 τ') → elems zs (l.map fun p => (⟨p.1, cOpd X p.2⟩ : Et X.d)) τ t0 = elems zs (l.map fun p => (⟨p.1, cOpd X p.2⟩ : Et X.d)) τ' t0 := by
            intro l
            induction l with
            | nil => intro _ _; rfl
            | cons p l ih =>
              intro t0 hq
              show elems zs _ τ (htSet zs HD t0 p.1 (cellsL (cOpd X p.2 τ))) = elems zs _ τ' (htSet zs HD t0 p.1 (cellsL (cOpd X p.2 τ')))
              rw [hq p (by simp), ih _ fun q hq' => hq q (by simp [hq'])]
          show cT (elOk s _ τ) (bArr s len zs (elems zs _ τ .e)) bDead = cT (elOk s _ τ') (bArr s len zs (elems zs _ τ' .e)) bDead
          rw [k1 _ hps, k2 _ _ hps]
        · cases h
  · rfl
theorem pnew_congr {o : Oper} {f : QT X.d → AV} (h : cCO X env o = .pnew f) (ho : ∀ x ∈ o.op.operands.toList, cOpd X x τ = cOpd X x τ') : f τ = f τ' := by
  obtain ⟨d, _, _, h⟩ := cCO_pnew h
  rcases h with ⟨t, z, cs, hop, hz, rfl⟩ | ⟨e, x, hop, rfl⟩
  · rfl
  · show pboxH (cOpd X x τ) = pboxH (cOpd X x τ')
    rw [ho x (by rw [hop]; simp [Op.operands])]
end
end Go.Ev

/-! Proofs, part 47: regions that draw: what a row has left stays (2). -/
namespace Go.Ev
set_option linter.unusedVariables false
set_option linter.unusedSimpArgs false
section
variable {X : Cx} {μ μ' : Mu} {H H' : Heap} {τ τ' : QT X.d} {ns : Nat} {β β' : Nat → Nat} {ops : List Oper} {env : List Ad}
theorem usesN_opd {n : Dn X.d} {t : Nat} (h : Operand.tmp t ∈ n.r.o.op.operands.toList) : t ∈ usesN ops n := by
  unfold usesN; exact List.mem_append_left _ (opd_uses h)
theorem adr_congr {o : Oper} {ad : Ad} {f : QT X.d → AV} (h : cCO X env o = .adr ad f) (ho : ∀ t, Operand.tmp t ∈ o.op.operands.toList → t < X.nt → (qget X.d t τ).t = (qget X.d t τ').t) : f τ = f τ' := by
  obtain ⟨t, x, i, p, fl, d, hop, hp, _, _, _, _, rfl⟩ := cCO_adr h
  have hch : (qget X.d p.chk τ).t = (qget X.d p.chk τ').t := by
    cases x with
    | tmp t' =>
      have : p.chk = t' ∧ t' < X.nt := by
        unfold cAdr at hp
        simp only at hp
        rw [cT_eq] at hp
        split at hp
        · rename_i hb
          rw [bA_true, ble_t] at hb
          cases hp; exact ⟨rfl, hb.2⟩
        · rw [cT_eq] at hp
          split at hp
          · rename_i hb
            rw [bA_true, ble_t] at hb
            split at hp
            · cases hp; exact ⟨rfl, hb.2⟩
            · cases hp
          · cases hp
      rw [this.1]; exact ho t' (by rw [hop]; simp [Op.operands]) this.2
    | _ => cases hp
  show cV (Nat.beq (qget X.d p.chk τ).t p.tag) vT vX = cV (Nat.beq (qget X.d p.chk τ').t p.tag) vT vX
  rw [hch]
theorem LeftOK.dst_lt {n : Dn X.d} (h : LeftOK X ops ns β μ H τ n) (hco : n.co = cCO X env n.r.o) {t : Nat} (ht : n.r.o.dst = some t) : t < X.nt := by
  rcases h with ⟨_, k⟩ | ⟨_, k⟩
  · exact (k t ht).1
  · cases hc : n.co with
    | val kk f => rw [hc] at k; exact (isPlain_inv (k.2 t ht).1).1
    | new f mk => rw [hc] at k; exact (isPlain_inv (k.2.2.2.2.2 t ht).1).1
    | pnew f => rw [hc] at k; exact (k t ht).1
    | adr ad f =>
      rw [hc] at k
      have := k.1
      rw [ht] at this
      cases this
      exact k.2.1
    | _ => rw [hc] at k; exact k.elim
theorem LeftOK.keep {n : Dn X.d} (h : LeftOK X ops ns β μ H τ n) (hco : n.co = cCO X env n.r.o) (hu : ∀ t ∈ usesO ops n.r.o, isPlain X t = true → qget X.d t τ = qget X.d t τ') (hut : ∀ t ∈ usesO ops n.r.o, t < X.nt → (qget X.d t τ).t = (qget X.d t τ').t)
    (hd : ∀ t, n.r.o.dst = some t → qget X.d t τ = qget X.d t τ')
    (hv : ∀ k f, n.co = .val k f → k ≠ 0 → gAct X ops n.r.o τ' = some true → f τ H = f τ' H') (hn : H.nx ≤ H'.nx) (hb : ∀ b, ns ≤ b → b < H.nx → μ b = none → hget H' b = hget H b) (hμ : ∀ b, ns ≤ b → b < H.nx → μ b = none → μ' b = none)
    (hβ : β' n.r.i = β n.r.i) : LeftOK X ops ns β' μ' H' τ' n := by
  have hpl : ∀ t ∈ usesO ops n.r.o, cTmp X t τ = cTmp X t τ' := fun t ht => by
    show cT (isPlain X t) (gt X.d t).f noG τ = cT (isPlain X t) (gt X.d t).f noG τ'
    cases hp : isPlain X t with
    | true => exact hu t ht hp
    | false => rfl
  have hg : gAct X ops n.r.o τ = gAct X ops n.r.o τ' := by
    unfold gAct
    split
    · rfl
    · rename_i j want hgu
      split
      · rfl
      · rename_i t ht
        rw [hpl t (guard_uses hgu ht)]
  have hopd : ∀ x ∈ n.r.o.op.operands.toList, cOpd X x τ = cOpd X x τ' := fun x hx => by
    cases x with
    | tmp t => exact hpl t (opd_uses hx)
    | _ => rfl
  rcases h with ⟨g, k⟩ | ⟨g, k⟩
  · refine .inl ⟨by rw [← hg]; exact g, fun t ht => ?_⟩
    rw [← hd t ht]; exact k t ht
  · refine .inr ⟨by rw [← hg]; exact g, ?_⟩
    have g' : gAct X ops n.r.o τ' = some true := by rw [← hg]; exact g
    cases hc : n.co with
    | val kk f =>
      rw [hc] at k
      have e : f τ H = f τ' H' := by
        by_cases h1 : kk = 0
        · subst h1
          exact val_congr (o := n.r.o) (env := env) (hco ▸ hc) hopd (fun b e => by omega) (fun e => by omega)
        · exact hv kk f hc h1 g'
      refine ⟨by rw [← e]; exact k.1, fun t ht => ?_⟩
      rw [← hd t ht, ← e]; exact k.2 t ht
    | new f mk =>
      rw [hc] at k
      obtain ⟨k1, k2, k3, k4, k5, k6⟩ := k
      have e : f τ = f τ' := new_congr (o := n.r.o) (env := env) (hco ▸ hc) hopd
      rw [hβ]
      refine ⟨by rw [← e]; exact k1, k2, Nat.lt_of_lt_of_le k3 hn, hμ _ k2 k3 k4, by rw [hb _ k2 k3 k4, ← e]; exact k5, fun t ht => ?_⟩
      rw [← hd t ht]; exact k6 t ht
    | pnew f =>
      rw [hc] at k
      have e : f τ = f τ' := pnew_congr (o := n.r.o) (env := env) (hco ▸ hc) hopd
      intro t ht
      rw [← hd t ht, ← e]; exact k t ht
    | adr ad f =>
      rw [hc] at k
      obtain ⟨k1, k2, k3, k4, k5, k6⟩ := k
      have e : f τ = f τ' := adr_congr (o := n.r.o) (env := env) (hco ▸ hc) fun t ht hlt => hut t (opd_uses ht) hlt
      exact ⟨k1, k2, k3, k4, by rw [← e]; exact k5, by rw [← hd _ k1, ← e]; exact k6⟩
    | _ => rw [hc] at k; exact k.elim
end
end Go.Ev

/-! Proofs, part 48: regions that draw: the evaluator goes ahead. -/
namespace Go.Ev
set_option linter.unusedVariables false
set_option linter.unusedSimpArgs false
section
variable {X : Cx} {μ μ0 : Mu} {w w0 : World} {H H' H0 : Heap} {τ : QT X.d} {a : Act} {rd : Option Nat} {K : RK X.d} {env env' : List Ad} {m ns base : Nat} {L : Nat → Bool} {β : Nat → Nat} {U : Nat → Prop} {dn : List (Dn X.d)} {ops : List Oper} {r : Row}
theorem unl_cons {n0 : Dn X.d} (hL : L n0.r.i = false) (s : Nat) : unl (n0 :: dn) L s ↔ unl dn L s ∨ n0.r.o.dst = some s := by
  constructor
  · rintro ⟨n, h1, h2, h3⟩
    rcases List.mem_cons.1 h1 with rfl | h1
    · exact .inr h3
    · exact .inl ⟨n, h1, h2, h3⟩
  · rintro (⟨n, h1, h2, h3⟩ | h)
    · exact ⟨n, by simp [h1], h2, h3⟩
    · exact ⟨n0, by simp, hL, h⟩
/-- the relation, when the evaluator goes ahead: the heap as it is, or with a block more -/
theorem RelU.ahead (h : RelU X env' base (unl dn L) μ H w τ a) {n0 : Dn X.d} (hL : L n0.r.i = false) {τ' : QT X.d} (hτ : (n0.r.o.dst = none ∧ τ' = τ) ∨ ∃ t v, n0.r.o.dst = some t ∧ t < X.nt ∧ τ' = qset X.d t τ v)
    (hH' : H' = H ∨ ∃ ab, H.nx ≤ 65534 ∧ H' = hnew H ab) : RelU X env' base (unl (n0 :: dn) L) μ H' w τ' a := by
  have hHR : HR μ H' w := by
    rcases hH' with rfl | ⟨ab, hx, rfl⟩
    · exact h.hH
    · exact h.hH.phantom hx ab
  have hGR : GR X.ro μ H' := by
    rcases hH' with rfl | ⟨ab, hx, rfl⟩
    · exact h.hG
    · intro g hg
      obtain ⟨⟨m1, p1, p2⟩, p3⟩ := h.hG g hg
      have hlt := (h.hH.dom _ _ p1).1
      rw [hget_hnew H g ab (by omega) (by omega), if_neg (by omega)]
      exact ⟨⟨m1, p1, p2⟩, p3⟩
  rcases hτ with ⟨hd, rfl⟩ | ⟨t, v, hd, ht, rfl⟩
  · have e : unl (n0 :: dn) L = unl dn L := by
      funext s
      apply propext
      rw [unl_cons hL s, hd]
      simp
    rw [e]
    exact ⟨h.hF, h.hA, h.hE, hGR, hHR, h.hb⟩
  · have hU : ∀ s, unl (n0 :: dn) L s ↔ unl dn L s ∨ s = t := fun s => by
      rw [unl_cons hL s, hd]
      constructor
      · rintro (h1 | h1)
        · exact .inl h1
        · exact .inr (Option.some.inj h1).symm
      · rintro (h1 | rfl)
        · exact .inl h1
        · exact .inr rfl
    exact ⟨h.hF.ahead ht v hU, h.hA.ahead h.hF ht v hU, h.hE, hGR, hHR, h.hb⟩
theorem env_cases (hs : env' <:+ envOf (cCO X env r.o) env) : env' <:+ env ∨ ∃ ad f, cCO X env r.o = .adr ad f ∧ env' = ad :: env := by
  unfold envOf at hs
  split at hs
  · rename_i ad f hco
    rcases List.suffix_cons_iff.1 hs with e | e
    · exact .inr ⟨ad, f, hco, e⟩
    · exact .inl e
  · exact .inl hs
theorem DJ.ahead (h : DJ X ops rd μ0 H0 w0 ns env dn L β μ H w τ a) (hd : Done X ops env dn m) (hr : RowOK ops dn m r (cCO X env r.o)) (hne : r.eff = false) {τ' : QT X.d} {β' : Nat → Nat}
    (hτ : (r.o.dst = none ∧ τ' = τ) ∨ ∃ t v, r.o.dst = some t ∧ t < X.nt ∧ τ' = qset X.d t τ v) (hH' : H' = H ∨ ∃ ab, H.nx ≤ 65534 ∧ H' = hnew H ab) (hβ : ∀ i, i ≠ r.i → β' i = β i)
    (hnew : LeftOK X ops ns β' μ H' τ' ⟨r, cCO X env r.o⟩) (hnb : (∃ f mk, cCO X env r.o = .new f mk) → gAct X ops r.o τ' = some true → β' r.i = H.nx)
    (hv : ∀ n ∈ dn, L n.r.i = false → ∀ k f, n.co = .val k f → k ≠ 0 → gAct X ops n.r.o τ' = some true → f τ H = f τ' H') :
    L r.i = false ∧ DJ X ops rd μ0 H0 w0 ns (envOf (cCO X env r.o) env) (⟨r, cCO X env r.o⟩ :: dn) L β' μ H' w τ' a := by
  have hfr : ∀ n ∈ dn, n.r.i ≠ r.i := fun n hn e => by
    have := (hd.mask r.i).2 ⟨n, hn, e⟩
    rw [hr.fresh] at this; cases this
  have hL : L r.i = false := by
    cases hl : L r.i with
    | false => rfl
    | true =>
      obtain ⟨n, h1, h2⟩ := h.sub r.i hl
      exact absurd h2 (hfr n h1)
  have R0 := h.R env (List.suffix_refl _)
  have hq : ∀ s, s < X.nt + 2 → r.o.dst ≠ some s → qget X.d s τ = qget X.d s τ' := fun s hs hne => by
    rcases hτ with ⟨_, rfl⟩ | ⟨t, v, hdt, ht, rfl⟩
    · rfl
    · have : s ≠ t := fun e => hne (by rw [hdt, e])
      rw [qget_qset X.d t s τ v (R0.hF.pow (Nat.lt_of_lt_of_le ht (Nat.le_add_right _ _))) (R0.hF.pow hs), if_neg this]
  have hnx : H.nx ≤ H'.nx := by
    rcases hH' with rfl | ⟨ab, _, rfl⟩
    · exact Nat.le_refl _
    · simp
  have hblk : ∀ b, b < H.nx → hget H' b = hget H b := fun b hb => by
    rcases hH' with rfl | ⟨ab, hx, rfl⟩
    · rfl
    · rw [hget_hnew H b ab (by omega) (by omega), if_neg (by omega)]
  refine ⟨hL, ?_⟩
  have keep : ∀ n ∈ dn, L n.r.i = false → LeftOK X ops ns β' μ H' τ' n := fun n hn hl => by
    obtain ⟨env1, dn1, m1, hs, hco, _, _, _⟩ := hd.suffix n hn
    have nouse : ∀ t ∈ usesO ops n.r.o, r.o.dst ≠ some t := fun t ht e => by
      have := ((hr.dst t e).2 n hn).2 (by unfold usesN; exact List.mem_append_left _ ht)
      rw [hne] at this; cases this.1
    have hleft := h.left n hn hl
    exact hleft.keep (env := env1) hco (fun t ht hp => hq t (by have := (isPlain_inv hp).1; omega) (nouse t ht)) (fun t ht hlt => by rw [hq t (by omega) (nouse t ht)])
      (fun t ht => hq t (by have := hleft.dst_lt hco ht; omega) (fun e => ((hr.dst t e).2 n hn).1 ht)) (hv n hn hl) hnx (fun b _ hb _ => hblk b hb) (fun b _ _ hb => hb) (hβ _ (hfr n hn))
  have oldA : ∀ n ∈ dn, gAct X ops n.r.o τ' = some true → gAct X ops n.r.o τ = some true := fun n hn hg => by
    have hpl : ∀ t ∈ usesO ops n.r.o, cTmp X t τ' = cTmp X t τ := fun t ht => by
      show cT (isPlain X t) (gt X.d t).f noG τ' = cT (isPlain X t) (gt X.d t).f noG τ
      cases hp : isPlain X t with
      | true =>
        have nouse : r.o.dst ≠ some t := fun e => by
          have := ((hr.dst t e).2 n hn).2 (by unfold usesN; exact List.mem_append_left _ ht)
          rw [hne] at this; cases this.1
        exact (hq t (by have := (isPlain_inv hp).1; omega) nouse).symm
      | false => rfl
    rw [← hg]
    unfold gAct
    split
    · rfl
    · rename_i j want hgu
      split
      · rfl
      · rename_i t ht
        rw [hpl t (guard_uses hgu ht)]
  have oldB : ∀ n ∈ dn, L n.r.i = false → (∃ f mk, n.co = .new f mk) → gAct X ops n.r.o τ = some true → β' n.r.i < H.nx := fun n hn hl ⟨f, mk', hc⟩ hg => by
    rw [hβ _ (hfr n hn)]
    rcases h.left n hn hl with ⟨g, _⟩ | ⟨_, k⟩
    · rw [hg] at g; cases g
    · rw [hc] at k; exact k.2.2.1
  exact {
    R := fun env' hs => by
      rcases env_cases hs with hs | ⟨ad, f, hco, rfl⟩
      · exact (h.R env' hs).ahead (n0 := ⟨r, cCO X env r.o⟩) hL hτ hH'
      · have R1 := R0.ahead (n0 := ⟨r, cCO X env r.o⟩) hL hτ hH'
        obtain ⟨t, x, i, p, fl, d, hop, hp, _, hdd, _, e1, _⟩ := cCO_adr hco
        refine ⟨R1.hF, ?_, ?_, R1.hG, R1.hH, R1.hb⟩
        · intro t' ad' hu hub hf hn' hb' ht
          have hf' : findAd t' (ad :: env) = some ad' := hf
          unfold findAd at hf'
          rw [cT_eq] at hf'
          split at hf'
          · rename_i e
            rw [beq_t] at e
            exact absurd ⟨⟨r, cCO X env r.o⟩, by simp, hL, by rw [hdd, ← e, e1]⟩ hu
          · exact R1.hA t' ad' hu hub hf' hn' hb' ht
        · intro ad' had'
          rcases List.mem_cons.1 had' with rfl | had'
          · rw [e1]; exact cAdr_box R0.hE hp
          · exact R0.hE ad' had'
    E := by
      rcases hH' with rfl | ⟨ab, hx, rfl⟩
      · exact h.E
      · exact h.E.phantom R0.hH hx ab
    D := fun hh => by
      rcases hτ with ⟨_, rfl⟩ | ⟨t, v, _, ht, rfl⟩
      · exact h.D hh
      · rw [nt_set R0.hF ht]; exact h.D hh
    nsb := ⟨h.nsb.1, Nat.le_trans h.nsb.2 hnx⟩
    eff := fun n hn hee => by
      rcases List.mem_cons.1 hn with rfl | hn
      · rw [hne] at hee; cases hee
      · exact h.eff n hn hee
    sub := fun i hi => let ⟨n, h1, h2⟩ := h.sub i hi; ⟨n, by simp [h1], h2⟩
    clo := fun n hn hi j hj => by
      rcases List.mem_cons.1 hn with rfl | hn
      · rw [hL] at hi; cases hi
      · exact h.clo n hn hi j hj
    left := fun n hn hi => by
      rcases List.mem_cons.1 hn with rfl | hn
      · exact hnew
      · exact keep n hn hi
    inj := fun n h1 n' h2 l1 l2 e k1 k2 => by
      rcases List.mem_cons.1 h1 with rfl | h1 <;> rcases List.mem_cons.1 h2 with rfl | h2
      · rfl
      · have a1 := hnb k1.1 k1.2
        have a2 := oldB n' h2 l2 k2.1 (oldA n' h2 k2.2)
        have e' : β' r.i = β' n'.r.i := e
        omega
      · have a1 := hnb k2.1 k2.2
        have a2 := oldB n h1 l1 k1.1 (oldA n h1 k1.2)
        have e' : β' n.r.i = β' r.i := e
        omega
      · rw [hβ _ (hfr n h1), hβ _ (hfr n' h2)] at e
        exact h.inj n h1 n' h2 l1 l2 e ⟨k1.1, oldA n h1 k1.2⟩ ⟨k2.1, oldA n' h2 k2.2⟩ }
end
end Go.Ev

/-! Proofs, part 49: regions that draw: values that look at a box. -/
namespace Go.Ev
set_option linter.unusedVariables false
set_option linter.unusedSimpArgs false
section
variable {X : Cx} {env : List Ad} {o : Oper}
/-- no value that looks at a box -/
def K01 {d : Nat} (co : CO d) : Prop := ∀ k f, co = .val k f → k ≤ 1
theorem K01.v0 {d : Nat} {f : QT d → Heap → AV} : K01 (.val 0 f) := fun k g e => by injection e with e1 _; omega
theorem K01.v1 {d : Nat} {f : QT d → Heap → AV} : K01 (.val 1 f) := fun k g e => by injection e with e1 _; omega
theorem K01.bad {d w : Nat} : K01 (.bad w : CO d) := fun k g e => by cases e
theorem K01.eff {d : Nat} {f : QT d → Heap → KR → Ans} : K01 (.eff f) := fun k g e => by cases e
theorem K01.new {d : Nat} {f : QT d → AB} {mk : Nat → AV} : K01 (.new f mk) := fun k g e => by cases e
theorem K01.pnew {d : Nat} {f : QT d → AV} : K01 (.pnew f) := fun k g e => by cases e
theorem K01.pst {d b : Nat} {f : QT d → AV} : K01 (.pst b f) := fun k g e => by cases e
theorem K01.adr {d : Nat} {ad : Ad} {f : QT d → AV} : K01 (.adr ad f) := fun k g e => by cases e
theorem K01.cT {d : Nat} {b : Bool} {x y : CO d} (hx : K01 x) (hy : K01 y) : K01 (cT b x y) := by cases b <;> assumption
theorem K01.eqC {d : Nat} {h' : AV → AV → Nat} {neg : Bool} {x y : QT d → AV} : K01 (eqC h' neg x y) := .v0
theorem K01.eqR {d : Nat} {h' : AV → AV → Heap → Nat} {neg : Bool} {x y : QT d → AV} : K01 (eqR h' neg x y) := .v1
theorem K01.eqCO {neg : Bool} {t : TypeId} {x y : Operand} : K01 (eqCO X neg t x y) := by
  unfold Go.Ev.eqCO
  repeat' (first | exact K01.bad | exact K01.v0 | exact K01.v1 | exact K01.eff | exact K01.new | exact K01.pnew | exact K01.pst | exact K01.adr | exact K01.eqC | exact K01.eqR | refine K01.cT ?_ ?_ | split)
theorem K01.binCO {op : BinOp} {t : TypeId} {x y : Operand} : K01 (binCO X op t x y) := by
  unfold Go.Ev.binCO
  repeat' (first | exact K01.v0 | exact K01.bad | exact K01.eqCO | split)
theorem K01.buildCO {t : TypeId} {ps : List (Nat × Operand)} : K01 (buildCO X t ps) := by
  unfold Go.Ev.buildCO
  repeat' (first | exact K01.bad | exact K01.v0 | exact K01.v1 | exact K01.eff | exact K01.new | exact K01.pnew | exact K01.pst | exact K01.adr | exact K01.eqC | exact K01.eqR | refine K01.cT ?_ ?_ | split)
theorem K01.bsliceCO {t : TypeId} {n : Nat} {ps : List (Nat × Operand)} : K01 (bsliceCO X t n ps) := by
  unfold Go.Ev.bsliceCO
  repeat' (first | exact K01.bad | exact K01.v0 | exact K01.v1 | exact K01.eff | exact K01.new | exact K01.pnew | exact K01.pst | exact K01.adr | exact K01.eqC | exact K01.eqR | refine K01.cT ?_ ?_ | split)
theorem K01.mkSliceCO {t : TypeId} {x y : Operand} : K01 (mkSliceCO X t x y) := by
  unfold Go.Ev.mkSliceCO
  repeat' (first | exact K01.bad | exact K01.v0 | exact K01.v1 | exact K01.eff | exact K01.new | exact K01.pnew | exact K01.pst | exact K01.adr | exact K01.eqC | exact K01.eqR | refine K01.cT ?_ ?_ | split)
theorem K01.faCO {t : TypeId} {x : Operand} {i : Nat} : K01 (faCO X t x i) := by
  unfold Go.Ev.faCO
  repeat' (first | exact K01.bad | exact K01.v0 | exact K01.v1 | exact K01.eff | exact K01.new | exact K01.pnew | exact K01.pst | exact K01.adr | exact K01.eqC | exact K01.eqR | refine K01.cT ?_ ?_ | split)
theorem K01.ixaCO {t : TypeId} {x i : Operand} : K01 (ixaCO X t x i) := by
  unfold Go.Ev.ixaCO
  repeat' (first | exact K01.bad | exact K01.v0 | exact K01.v1 | exact K01.eff | exact K01.new | exact K01.pnew | exact K01.pst | exact K01.adr | exact K01.eqC | exact K01.eqR | refine K01.cT ?_ ?_ | split)
theorem K01.ixCO {t : TypeId} {x i : Operand} : K01 (ixCO X t x i) := by
  unfold Go.Ev.ixCO
  repeat' (first | exact K01.bad | exact K01.v0 | exact K01.v1 | exact K01.eff | exact K01.new | exact K01.pnew | exact K01.pst | exact K01.adr | exact K01.eqC | exact K01.eqR | refine K01.cT ?_ ?_ | split)
theorem K01.fldCO {t : TypeId} {x : Operand} {i : Nat} : K01 (fldCO X t x i) := by
  unfold Go.Ev.fldCO
  repeat' (first | exact K01.bad | exact K01.v0 | exact K01.v1 | exact K01.eff | exact K01.new | exact K01.pnew | exact K01.pst | exact K01.adr | exact K01.eqC | exact K01.eqR | refine K01.cT ?_ ?_ | split)
theorem K01.slCO {t : TypeId} {x : Operand} {lo hi mx : Option Operand} : K01 (slCO X t x lo hi mx) := by
  unfold Go.Ev.slCO
  repeat' (first | exact K01.bad | exact K01.v0 | exact K01.v1 | exact K01.eff | exact K01.new | exact K01.pnew | exact K01.pst | exact K01.adr | exact K01.eqC | exact K01.eqR | refine K01.cT ?_ ?_ | split)
theorem K01.lookCO {t : TypeId} {x y : Operand} {ok : Bool} : K01 (lookCO X t x y ok) := by
  unfold Go.Ev.lookCO
  repeat' (first | exact K01.bad | exact K01.v0 | exact K01.v1 | exact K01.eff | exact K01.new | exact K01.pnew | exact K01.pst | exact K01.adr | exact K01.eqC | exact K01.eqR | refine K01.cT ?_ ?_ | split)
theorem K01.mupdCO {t : TypeId} {x y z : Operand} : K01 (mupdCO X t x y z) := by
  unfold Go.Ev.mupdCO
  repeat' (first | exact K01.bad | exact K01.v0 | exact K01.v1 | exact K01.eff | exact K01.new | exact K01.pnew | exact K01.pst | exact K01.adr | exact K01.eqC | exact K01.eqR | refine K01.cT ?_ ?_ | split)
theorem K01.convCO {t u : TypeId} {x : Operand} : K01 (convCO X t u x) := by
  unfold Go.Ev.convCO
  repeat' (first | exact K01.bad | exact K01.v0 | exact K01.v1 | exact K01.eff | exact K01.new | exact K01.pnew | exact K01.pst | exact K01.adr | exact K01.eqC | exact K01.eqR | refine K01.cT ?_ ?_ | split)
theorem K01.asCO {x : Operand} {a : TypeId} {ok : Bool} : K01 (asCO X x a ok) := by
  unfold Go.Ev.asCO
  repeat' (first | exact K01.bad | exact K01.v0 | exact K01.v1 | exact K01.eff | exact K01.new | exact K01.pnew | exact K01.pst | exact K01.adr | exact K01.eqC | exact K01.eqR | refine K01.cT ?_ ?_ | split)
theorem K01.unCO {op : UnOp} {t : TypeId} {x : Operand} : K01 (unCO X op t x) := by
  unfold Go.Ev.unCO
  repeat' (first | exact K01.bad | exact K01.v0 | exact K01.v1 | exact K01.eff | exact K01.new | exact K01.pnew | exact K01.pst | exact K01.adr | exact K01.eqC | exact K01.eqR | refine K01.cT ?_ ?_ | split)
theorem K01.lenCO {t : TypeId} {x : Operand} : K01 (lenCO X t x) := by
  unfold Go.Ev.lenCO
  repeat' (first | exact K01.bad | exact K01.v0 | exact K01.v1 | exact K01.eff | exact K01.new | exact K01.pnew | exact K01.pst | exact K01.adr | exact K01.eqC | exact K01.eqR | refine K01.cT ?_ ?_ | split)
theorem K01.builtinCO {b : Builtin} {ats : List TypeId} {args : List Operand} : K01 (builtinCO X b ats args) := by
  unfold Go.Ev.builtinCO
  repeat' (first | exact K01.lenCO | exact K01.bad | exact K01.v0 | exact K01.v1 | exact K01.eff | split)
theorem cCO_k01 (h : ∀ t x, o.op ≠ .load t x) : K01 (cCO X env o) := by
  rw [cCO_eq]
  unfold cCOs
  split
  all_goals first
    | (rename_i t x hop; exact absurd hop (h t x))
    | exact K01.binCO | exact K01.buildCO | exact K01.bsliceCO | exact K01.mkSliceCO | exact K01.ixaCO | exact K01.ixCO | exact K01.fldCO | exact K01.slCO | exact K01.lookCO | exact K01.mupdCO | exact K01.convCO | exact K01.asCO | exact K01.unCO
    | (repeat' (first | exact K01.bad | exact K01.v0 | exact K01.v1 | exact K01.eff | exact K01.new | exact K01.pnew | exact K01.pst | exact K01.adr | exact K01.faCO | exact K01.builtinCO | refine K01.cT ?_ ?_ | split))
/-- the kinds of values -/
theorem val_box {b : Nat} {f : QT X.d → Heap → AV} (h : cCO X env o = .val (b + 2) f) (hE : EnvOk X env) : b < X.nt ∧ ∃ t x, o.op = .load t x ∧ ∀ t', x = .tmp t' → t' < X.nt := by
  have hl : ∃ t x, o.op = .load t x := by
    apply Classical.byContradiction
    intro hn
    have := cCO_k01 (X := X) (env := env) (o := o) (fun t x e => hn ⟨t, x, e⟩) _ _ h
    omega
  obtain ⟨t, x, hop⟩ := hl
  rw [cCO_eq] at h
  unfold cCOs at h
  rw [hop] at h
  simp only at h
  split at h
  · rename_i p hp
    rw [cT_eq] at h
    split at h
    · cases h
    · injection h with e1 _
      have hb : p.box = b := by have : p.box + 2 = b + 2 := e1; omega
      refine ⟨by rw [← hb]; exact (cAdr_box hE hp).1, t, x, hop, fun t' e => ?_⟩
      subst e
      unfold cAdr at hp
      simp only at hp
      rw [cT_eq] at hp
      split at hp
      · rename_i hb'; rw [bA_true, ble_t] at hb'; exact hb'.2
      · rw [cT_eq] at hp
        split at hp
        · rename_i hb'; rw [bA_true, ble_t] at hb'; exact hb'.2
        · cases hp
  · rw [cT_eq] at h
    split at h
    · cases h
    · injection h with e1 _; omega
end
end Go.Ev

/-! Proofs, part 50: regions that draw: the evaluator goes ahead by a free row. -/
namespace Go.Ev
set_option linter.unusedVariables false
set_option linter.unusedSimpArgs false
section
variable {X : Cx} {μ μ0 : Mu} {w w0 : World} {H H' H0 : Heap} {τ τ' : QT X.d} {a : Act} {rd : Option Nat} {K : RK X.d} {env env' : List Ad} {m ns base : Nat} {L : Nat → Bool} {β : Nat → Nat} {dn : List (Dn X.d)} {ops : List Oper} {r : Row}
/-- a value whose slots are as they were -/
theorem val_keep {o : Oper} {k : Nat} {f : QT X.d → Heap → AV} (h : cCO X env o = .val k f) (hE : EnvOk X env) (hu : ∀ t ∈ usesO ops o ++ usesC (CO.val (d := X.d) k f), t < X.nt → qget X.d t τ = qget X.d t τ') (hH : k = 1 → H = H') : f τ H = f τ' H' := by
  refine val_congr h (fun x hx => ?_) (fun b hb => ?_) hH
  · cases x with
    | tmp t =>
      show cT (isPlain X t) (gt X.d t).f noG τ = cT (isPlain X t) (gt X.d t).f noG τ'
      cases hp : isPlain X t with
      | true => exact hu t (List.mem_append_left _ (opd_uses hx)) (isPlain_inv hp).1
      | false => rfl
    | _ => rfl
  · subst hb
    obtain ⟨h1, t0, x, hop, h2⟩ := val_box h hE
    refine ⟨hu b (List.mem_append_right _ ?_) h1, fun t ht => hu t (List.mem_append_left _ (opd_uses ht)) ?_⟩
    · unfold usesC
      simp only
      rw [cT_eq, if_pos (by simp)]
      simp
    · rw [hop] at ht
      simp [Op.operands] at ht
      exact h2 t ht.symm
theorem DJ.hv (h : DJ X ops rd μ0 H0 w0 ns env dn L β μ H w τ a) (hd : Done X ops env dn m) (hr : RowOK ops dn m r (cCO X env r.o)) (hne : r.eff = false)
    (hq : ∀ s, s < X.nt → r.o.dst ≠ some s → qget X.d s τ = qget X.d s τ') : ∀ n ∈ dn, ∀ k f, n.co = .val k f → (k = 1 → H = H') → f τ H = f τ' H' := by
  intro n hn k f hco hk
  obtain ⟨env1, dn1, m1, hs, hco1, _, _, _⟩ := hd.suffix n hn
  refine val_keep (ops := ops) (env := env1) (o := n.r.o) (hco1 ▸ hco) (h.R env1 hs).hE (fun t ht hlt => hq t hlt fun e => ?_) hk
  have := ((hr.dst t e).2 n hn).2 (by unfold usesN; rw [hco]; exact ht)
  rw [hne] at this; cases this.1
theorem gAct_keep {o : Oper} (hu : ∀ t ∈ usesO ops o, t < X.nt → qget X.d t τ = qget X.d t τ') : gAct X ops o τ = gAct X ops o τ' := by
  unfold gAct
  split
  · rfl
  · rename_i j want hgu
    split
    · rfl
    · rename_i t ht
      have : cTmp X t τ = cTmp X t τ' := by
        show cT (isPlain X t) (gt X.d t).f noG τ = cT (isPlain X t) (gt X.d t).f noG τ'
        cases hp : isPlain X t with
        | true => exact hu t (guard_uses hgu ht) (isPlain_inv hp).1
        | false => rfl
      rw [this]
/-- the temporaries behind a row that leaves v -/
noncomputable def afterD (X : Cx) (dst : Option Nat) (τ : QT X.d) (v : AV) : QT X.d :=
  match dst with
  | none => τ
  | some t => qset X.d t τ v
/-- the temporaries behind a row -/
theorem dst_cases {U : Nat → Prop} (hF : FR X base U μ w τ a) {dst : Option Nat} {v : AV} (hlt : ∀ t, dst = some t → t < X.nt) :
    ∃ τ', ((dst = none ∧ τ' = τ) ∨ ∃ t v, dst = some t ∧ t < X.nt ∧ τ' = qset X.d t τ v) ∧ (∀ s, s < X.nt → dst ≠ some s → qget X.d s τ = qget X.d s τ') ∧
      (∀ t, dst = some t → qget X.d t τ' = v) ∧ τ' = afterD X dst τ v := by
  cases dst with
  | none => exact ⟨τ, .inl ⟨rfl, rfl⟩, fun _ _ _ => rfl, (fun t e => by cases e), rfl⟩
  | some t =>
    have ht := hlt t rfl
    refine ⟨qset X.d t τ v, .inr ⟨t, v, rfl, ht, rfl⟩, fun s hs hne => ?_, fun t' e => ?_, rfl⟩
    · have : s ≠ t := fun e => hne (by rw [e])
      rw [qget_qset X.d t s τ v (hF.pow (by omega)) (hF.pow (by omega)), if_neg this]
    · cases e
      rw [qget_qset X.d t t τ v (hF.pow (by omega)) (hF.pow (by omega)), if_pos rfl]
/-- a result written -/
theorem putC_inv {dst : Option Nat} {r : OpR X.d} {v : AV} (h : (putC X dst r).f τ K v H = .done) : Ok v ∧ (∀ t, dst = some t → isPlain X t = true) ∧ r.run (afterD X dst τ v) H K = .done := by
  cases dst with
  | none =>
    have h0 : okA v (r.run τ H K) = .done := h
    rw [okA_done] at h0
    exact ⟨h0.1, (fun t e => by cases e), h0.2⟩
  | some t =>
    have h0 : cT (isPlain X t) (putS' (st X.d t).f r.run) (failP 200) τ K v H = .done := h
    cases hp : isPlain X t with
    | false => rw [hp] at h0; cases h0
    | true =>
      rw [hp, cT_true] at h0
      unfold putS' at h0
      rw [okA_done, st_eq] at h0
      exact ⟨h0.1, (fun t' e => by cases e; exact hp), h0.2⟩
theorem skipC_inv {dst : Option Nat} {r : OpR X.d} (h : (skipC X dst r).run τ H K = .done) : (∀ t, dst = some t → t < X.nt) ∧ r.run (afterD X dst τ undefA) H K = .done := by
  cases dst with
  | none => exact ⟨(fun t e => by cases e), h⟩
  | some t =>
    have h0 : cT (Nat.ble (Nat.succ t) X.nt) (runSkip (st X.d t).f r.run) (failR 201) τ H K = .done := h
    cases hp : Nat.ble (Nat.succ t) X.nt with
    | false => rw [hp] at h0; cases h0
    | true =>
      rw [hp, cT_true] at h0
      rw [ble_t] at hp
      unfold runSkip at h0
      rw [st_eq] at h0
      exact ⟨(fun t' e => by cases e; exact hp), h0⟩
theorem ver_nil {b : Bool} {ns : List (Dn X.d)} {rest : OpR X.d} {ns' : List (Dn X.d)} (h : (cVer X ops (cT b ns ns') rest).run τ H K = .done) : rest.run τ H K = .done := (cVer_ok _ _ h).1
theorem ahead_ok {rest : OpR X.d} (h : DJ X ops rd μ0 H0 w0 ns env dn L β μ H w τ a) (hd : Done X ops env dn m) (hr : RowOK ops dn m r (cCO X env r.o)) (hne : r.eff = false)
    (hok : (cOp X false ops (cCO X env r.o) r.o (cVer X ops (cT r.eff (toVer (isCtl r.o.op) r (cCO X env r.o) dn) (cT (isNew (cCO X env r.o)) (toNew dn) [])) rest)).run τ H K = .done) :
    ∃ β' H' τ', DJ X ops rd μ0 H0 w0 ns (envOf (cCO X env r.o) env) (⟨r, cCO X env r.o⟩ :: dn) L β' μ H' w τ' a ∧ rest.run τ' H' K = .done := by
  rw [hne, cT_false] at hok
  have R0 := h.R env (List.suffix_refl _)
  have nou : ∀ t ∈ usesO ops r.o ++ usesC (cCO X env r.o), r.o.dst ≠ some t := fun t ht e => (hr.dst t e).1 hne ht
  have own : ∀ τ', (∀ s, s < X.nt → r.o.dst ≠ some s → qget X.d s τ = qget X.d s τ') → ∀ t ∈ usesO ops r.o ++ usesC (cCO X env r.o), t < X.nt → qget X.d t τ = qget X.d t τ' := fun τ' hq t ht hlt => hq t hlt (nou t ht)
  have ownG : ∀ τ', (∀ s, s < X.nt → r.o.dst ≠ some s → qget X.d s τ = qget X.d s τ') → gAct X ops r.o τ = gAct X ops r.o τ' := fun τ' hq => gAct_keep fun t ht hlt => own τ' hq t (List.mem_append_left _ ht) hlt
  rcases cOp_inv hok with ⟨g, h0⟩ | ⟨g, h0⟩
  · -- wanted
    have hop1 : (runCO X (cCO X env r.o) r.o.dst (cVer X ops (cT (isNew (cCO X env r.o)) (toNew dn) []) rest)).run τ H K = .done := by
      unfold op1 at h0
      rw [(hr.kind hne).1, cT_false] at h0
      exact h0
    -- a row that leaves the heap as it is
    have still : ∀ v : AV, (∀ t, r.o.dst = some t → t < X.nt) → rest.run (afterD X r.o.dst τ v) H K = .done → (¬ ∃ f mk, cCO X env r.o = .new f mk) →
        (∀ τ', (∀ s, s < X.nt → r.o.dst ≠ some s → qget X.d s τ = qget X.d s τ') → (∀ t, r.o.dst = some t → qget X.d t τ' = v) → gAct X ops r.o τ' = some true → LeftOK X ops ns β μ H τ' ⟨r, cCO X env r.o⟩) →
        ∃ β' H' τ', DJ X ops rd μ0 H0 w0 ns (envOf (cCO X env r.o) env) (⟨r, cCO X env r.o⟩ :: dn) L β' μ H' w τ' a ∧ rest.run τ' H' K = .done := by
      intro v hlt hrest hnn hleft
      obtain ⟨τ', e1, e2, e3, e4⟩ := dst_cases R0.hF (dst := r.o.dst) (v := v) hlt
      refine ⟨β, H, τ', (h.ahead hd hr hne e1 (.inl rfl) (fun _ _ => rfl) (hleft τ' e2 e3 ((ownG τ' e2).symm.trans g)) (fun hh => absurd hh hnn) ?_).2, by rw [e4]; exact hrest⟩
      intro n hn _ k f hco _ _
      exact h.hv hd hr hne e2 n hn k f hco (fun _ => rfl)
    cases hc : cCO X env r.o with
    | val k f =>
      have h1 : (putC X r.o.dst (cVer X ops (cT (isNew (cCO X env r.o)) (toNew dn) []) rest)).f τ K (f τ H) H = .done := by rw [hc] at hop1 ⊢; exact hop1
      obtain ⟨k1, k2, k3⟩ := putC_inv h1
      rw [← hc]
      refine still (f τ H) (fun t e => (isPlain_inv (k2 t e)).1) (ver_nil k3) (fun ⟨f', mk, e⟩ => by rw [hc] at e; cases e) fun τ' e2 e3 hg => .inr ⟨hg, ?_⟩
      have ef : f τ' H = f τ H := (val_keep (ops := ops) hc R0.hE (fun t ht hlt => own τ' e2 t (by rw [hc]; exact ht) hlt) fun _ => rfl).symm
      simp only [hc]
      rw [ef]
      exact ⟨k1, fun t ht => ⟨k2 t ht, e3 t ht⟩⟩
    | pnew f =>
      obtain ⟨t, hdst, _⟩ := cCO_pnew hc
      have h1 : cT (bA (Nat.testBit X.pb t) (Nat.ble (Nat.succ t) X.nt)) (runSet 21 f (st X.d t).f (cVer X ops (cT (isNew (cCO X env r.o)) (toNew dn) []) rest).run) (failR 203) τ H K = .done := by
        rw [hc, hdst] at hop1; rw [hc]; exact hop1
      cases hb : bA (Nat.testBit X.pb t) (Nat.ble (Nat.succ t) X.nt) with
      | false => rw [hb] at h1; cases h1
      | true =>
        rw [hb, cT_true] at h1
        rw [bA_true, ble_t] at hb
        unfold runSet at h1
        rw [tA_done, st_eq] at h1
        rw [← hc]
        refine still (f τ) (fun t' e => by rw [hdst] at e; cases e; exact hb.2) (by rw [hdst]; exact ver_nil h1.2) (fun ⟨f', mk, e⟩ => by rw [hc] at e; cases e) fun τ' e2 e3 hg => .inr ⟨hg, ?_⟩
        simp only [hc]
        intro t' ht'
        rw [hdst] at ht'; cases ht'
        have ef : f τ = f τ' := pnew_congr hc fun x hx => by
          cases x with
          | tmp t =>
            show cT (isPlain X t) (gt X.d t).f noG τ = cT (isPlain X t) (gt X.d t).f noG τ'
            cases hp : isPlain X t with
            | true => exact own τ' e2 t (List.mem_append_left _ (opd_uses hx)) (isPlain_inv hp).1
            | false => rfl
          | _ => rfl
        rw [← ef]
        exact ⟨hb.2, hb.1, h1.1, e3 t hdst⟩
    | adr ad f =>
      obtain ⟨t0, x, i, p, fl, d, hop, hp, _, hdd, _, e1', _⟩ := cCO_adr hc
      have hdst : r.o.dst = some ad.t := by rw [hdd, e1']
      have h1 : cT (bA (bA (Nat.testBit X.ad ad.t) (!Nat.testBit X.pb ad.t)) (Nat.ble (Nat.succ ad.t) X.nt)) (runSet 1 f (st X.d ad.t).f (cVer X ops (cT (isNew (cCO X env r.o)) (toNew dn) []) rest).run) (failR 206) τ H K = .done := by
        rw [hc] at hop1 ⊢; exact hop1
      cases hb : bA (bA (Nat.testBit X.ad ad.t) (!Nat.testBit X.pb ad.t)) (Nat.ble (Nat.succ ad.t) X.nt) with
      | false => rw [hb] at h1; cases h1
      | true =>
        rw [hb, cT_true] at h1
        rw [bA_true, bA_true, ble_t] at hb
        obtain ⟨⟨hb1, hb2⟩, hb3⟩ := hb
        unfold runSet at h1
        rw [tA_done, st_eq] at h1
        rw [← hc]
        refine still (f τ) (fun t' e => by rw [hdst] at e; cases e; exact hb3) (by rw [hdst]; exact ver_nil h1.2) (fun ⟨f', mk, e⟩ => by rw [hc] at e; cases e) fun τ' e2 e3 hg => .inr ⟨hg, ?_⟩
        simp only [hc]
        have ef : f τ = f τ' := adr_congr hc fun t ht hlt => by rw [own τ' e2 t (List.mem_append_left _ (opd_uses ht)) hlt]
        rw [← ef]
        exact ⟨hdst, hb3, hb1, by simpa using hb2, h1.1, e3 _ hdst⟩
    | new f mk =>
      have h1 : runNew f mk (putC X r.o.dst (cVer X ops (toNew dn) rest)).f τ H K = .done := by
        rw [hc] at hop1
        exact hop1
      unfold runNew at h1
      rcases cA_cases h1 with ⟨_, h2⟩ | ⟨h1, h2⟩
      · cases h2
      · rw [hnewK_done] at h2
        have ht0 : (f τ).t ≠ 0 := fun e => by rw [e] at h1; simp at h1
        obtain ⟨k1, k2, k3⟩ := putC_inv h2.2
        obtain ⟨τ', e1, e2, e3, e4⟩ := dst_cases R0.hF (dst := r.o.dst) (v := mk H.nx) (fun t e => (isPlain_inv (k2 t e)).1)
        have k4 : (cVer X ops (toNew dn) rest).run τ' (hnew H (f τ)) K = .done := by rw [e4]; exact k3
        obtain ⟨k5, k6⟩ := cVer_ok _ _ k4
        have ef : f τ = f τ' := new_congr hc fun x hx => by
          cases x with
          | tmp t =>
            show cT (isPlain X t) (gt X.d t).f noG τ = cT (isPlain X t) (gt X.d t).f noG τ'
            cases hp : isPlain X t with
            | true => exact own τ' e2 t (List.mem_append_left _ (opd_uses hx)) (isPlain_inv hp).1
            | false => rfl
          | _ => rfl
        have hx : H.nx ≤ 65534 := h2.1
        rw [← hc]
        refine ⟨fun i => if i = r.i then H.nx else β i, hnew H (f τ), τ', (h.ahead hd hr hne e1 (.inr ⟨f τ, hx, rfl⟩) (fun i hi => if_neg hi) ?_ (fun _ _ => if_pos rfl) ?_).2, k5⟩
        · refine .inr ⟨(ownG τ' e2).symm.trans g, ?_⟩
          simp only [hc]
          simp only [if_true]
          rw [← ef]
          refine ⟨ht0, h.nsb.2, by simp, R0.hH.none, ?_, fun t ht => ⟨k2 t ht, e3 t ht⟩⟩
          rw [hget_hnew H _ _ (by omega) (by omega), if_pos rfl]
        · intro n hn hl k f' hco' hk0 hgn
          by_cases hk : k = 1
          · subst hk
            -- what is looked at again
            have hmem : n ∈ toNew dn := by
              unfold toNew
              rw [List.mem_filter]
              refine ⟨hn, ?_⟩
              rw [hco']
              simp only
              rw [bA_true]
              refine ⟨by simp, ?_⟩
              rw [List.all_eq_true]
              intro e he
              cases hee : e.r.eff with
              | false => rfl
              | true =>
                rw [cT_true]
                cases hb : e.r.anc.testBit n.r.i with
                | false => simp [hb]
                | true =>
                  have := h.clo e he (h.eff e he hee) _ hb
                  rw [this] at hl; cases hl
            obtain ⟨⟨k', f'', t, q1, q2⟩, q3⟩ := k6 n hmem
            have q4 := q3 hgn 1 f' t hco' q2
            rw [q4]
            rcases h.left n hn hl with ⟨gn, _⟩ | ⟨gn, kn⟩
            · exfalso
              have e : gAct X ops n.r.o τ = gAct X ops n.r.o τ' := gAct_keep fun s hs hlt => e2 s hlt fun e => by
                have := ((hr.dst s e).2 n hn).2 (by unfold usesN; exact List.mem_append_left _ hs)
                rw [hne] at this; cases this.1
              rw [gn, hgn] at e; cases e
            · rw [hco'] at kn
              obtain ⟨p1, p2⟩ := kn.2 t q2
              rw [← p2]
              exact e2 t (isPlain_inv p1).1 fun e => ((hr.dst t e).2 n hn).1 q2
          · exact h.hv hd hr hne e2 n hn k f' hco' (fun e => absurd e hk)
    | _ => exact absurd (hr.kind hne).2 (by rw [hc]; simp [kd])
  · obtain ⟨k1, k2⟩ := skipC_inv h0
    obtain ⟨τ', e1, e2, e3, e4⟩ := dst_cases R0.hF (dst := r.o.dst) (v := undefA) k1
    refine ⟨β, H, τ', (h.ahead hd hr hne e1 (.inl rfl) (fun _ _ => rfl) (.inl ⟨(ownG τ' e2).symm.trans g, fun t ht => ⟨k1 t ht, e3 t ht⟩⟩) (fun _ hg => ?_) ?_).2, ver_nil (by rw [e4]; exact k2)⟩
    · rw [← ownG τ' e2, g] at hg; cases hg
    · intro n hn _ k f hco _ _
      exact h.hv hd hr hne e2 n hn k f hco (fun _ => rfl)
end
end Go.Ev

/-! Proofs, part 51: regions that draw: an effect. -/
namespace Go.Ev
set_option linter.unusedVariables false
set_option linter.unusedSimpArgs false
section
variable {X : Cx} {μ μ' μ0 : Mu} {w w' w0 : World} {H H' H0 : Heap} {τ τ' : QT X.d} {a a' : Act} {rd : Option Nat} {K : RK X.d} {env env' : List Ad} {m ns base : Nat} {L : Nat → Bool} {β : Nat → Nat} {dn : List (Dn X.d)} {ops : List Oper} {r : Row}
theorem val_box2 {o : Oper} {b : Nat} {f : QT X.d → Heap → AV} (h : cCO X env o = .val (b + 2) f) (hE : EnvOk X env) : ∀ t, Operand.tmp t ∈ o.op.operands.toList → t < X.nt ∧ (X.pb.testBit t = true → t = b) := by
  obtain ⟨_, ty, x, hop, h2⟩ := val_box h hE
  intro t ht
  rw [hop] at ht
  simp [Op.operands] at ht
  have hx : x = .tmp t := ht.symm
  refine ⟨h2 t hx, fun hpb => ?_⟩
  rw [cCO_eq] at h
  unfold cCOs at h
  rw [hop] at h
  simp only at h
  have hA : cAdr X env x = some ⟨t, 21, t, 0⟩ := by
    subst hx
    unfold cAdr
    simp only
    rw [cT_eq, if_pos (by rw [bA_true, ble_t]; exact ⟨hpb, h2 t rfl⟩)]
  rw [hA] at h
  simp only at h
  rw [cT_eq] at h
  split at h
  · cases h
  · injection h with e1 _
    exact Nat.add_right_cancel (m := 2) e1
theorem unl_eff (hd : Done X ops env dn m) (hr : RowOK ops dn m r (cCO X env r.o)) : unl (⟨r, cCO X env r.o⟩ :: dn) (addL L r.i) = unl dn L := by
  funext s
  apply propext
  constructor
  · rintro ⟨n, h1, h2, h3⟩
    obtain ⟨h4, h5⟩ := addL_f.1 h2
    rcases List.mem_cons.1 h1 with rfl | h1
    · exact absurd rfl h5
    · exact ⟨n, h1, h4, h3⟩
  · rintro ⟨n, h1, h2, h3⟩
    refine ⟨n, by simp [h1], addL_f.2 ⟨h2, fun e => ?_⟩, h3⟩
    have := (hd.mask r.i).2 ⟨n, h1, e⟩
    rw [hr.fresh] at this; cases this
/-- the invariant behind an effect -/
theorem DJ.eff_next (h : DJ X ops rd μ0 H0 w0 ns env dn L β μ H w τ a) (hd : Done X ops env dn m) (hr : RowOK ops dn m r (cCO X env r.o)) (hee : r.eff = true) (ha : ∀ j, r.anc.testBit j = true → L j = true)
    (hR : ∀ env', env' <:+ env → RelU X env' w0.heap.size (unl dn L) μ' H' w' τ' a') (hE : Ext X.ro μ0 H0 w0 μ' H' w') (hD : rd.isSome = true → (qget X.d X.nt τ').t ≠ 22)
    (hnx : H.nx ≤ H'.nx) (hblk : ∀ b, b < H.nx → μ b = none → hget H' b = hget H b) (hμ : ∀ b, b < H.nx → μ b = none → μ' b = none)
    (hq : ∀ s, s < X.nt → r.o.dst ≠ some s → (∀ b f, cCO X env r.o = .pst b f → s ≠ b) → qget X.d s τ = qget X.d s τ')
    (hqb : ∀ b f, cCO X env r.o = .pst b f → X.pb.testBit b = true ∧ (r.o.dst ≠ some b → (qget X.d b τ).t = (qget X.d b τ').t))
    (hv : ∀ n ∈ dn, L n.r.i = false → ∀ k f, n.co = .val k f → k ≠ 0 → gAct X ops n.r.o τ = some true → gAct X ops n.r.o τ' = some true → (∀ t, n.r.o.dst = some t → qget X.d t τ = qget X.d t τ') → f τ H = f τ' H') :
    DJ X ops rd μ0 H0 w0 ns (envOf (cCO X env r.o) env) (⟨r, cCO X env r.o⟩ :: dn) (addL L r.i) β μ' H' w' τ' a' := by
  have henv : envOf (cCO X env r.o) env = env := by
    have := (hr.kinde hee).2.2
    unfold envOf
    split
    · rename_i ad f e; rw [e] at this; exact absurd rfl this
    · rfl
  have nouse : ∀ n ∈ dn, L n.r.i = false → ∀ t ∈ usesN ops n, r.o.dst ≠ some t := fun n hn hl t ht e => by
    have := (((hr.dst t e).2 n hn).2 ht).2
    rw [ha _ this] at hl; cases hl
  have nodst : ∀ n ∈ dn, L n.r.i = false → ∀ t, n.r.o.dst = some t → r.o.dst ≠ some t ∧ ∀ b f, cCO X env r.o = .pst b f → t ≠ b := fun n hn hl t ht => by
    refine ⟨fun e => ((hr.dst t e).2 n hn).1 ht, fun b f e eb => ?_⟩
    subst eb
    have := hr.uses t (List.mem_append_right _ (by rw [e]; simp [usesC])) n hn ht
    rw [ha _ this] at hl; cases hl
  have plainq : ∀ n ∈ dn, L n.r.i = false → ∀ t ∈ usesO ops n.r.o, isPlain X t = true → qget X.d t τ = qget X.d t τ' := fun n hn hl t ht hp => by
    obtain ⟨p1, p2, _⟩ := isPlain_inv hp
    refine hq t p1 (nouse n hn hl t (by unfold usesN; exact List.mem_append_left _ ht)) fun b f e eb => ?_
    subst eb
    rw [(hqb t f e).1] at p2; cases p2
  have gsame : ∀ n ∈ dn, L n.r.i = false → gAct X ops n.r.o τ = gAct X ops n.r.o τ' := fun n hn hl => by
    unfold gAct
    split
    · rfl
    · rename_i j want hgu
      split
      · rfl
      · rename_i t ht
        have : cTmp X t τ = cTmp X t τ' := by
          show cT (isPlain X t) (gt X.d t).f noG τ = cT (isPlain X t) (gt X.d t).f noG τ'
          cases hp : isPlain X t with
          | true => exact plainq n hn hl t (guard_uses hgu ht) hp
          | false => rfl
        rw [this]
  have dstq : ∀ n ∈ dn, L n.r.i = false → ∀ t, n.r.o.dst = some t → qget X.d t τ = qget X.d t τ' := fun n hn hl t ht => by
    obtain ⟨env1, dn1, m1, hs, hco, _, _, _⟩ := hd.suffix n hn
    obtain ⟨k1, k2⟩ := nodst n hn hl t ht
    exact hq t ((h.left n hn hl).dst_lt hco ht) k1 k2
  rw [henv]
  exact {
    R := fun env' hs => by rw [unl_eff hd hr]; exact hR env' hs
    E := hE
    D := hD
    nsb := ⟨h.nsb.1, Nat.le_trans h.nsb.2 hnx⟩
    eff := fun n hn he => by
      rcases List.mem_cons.1 hn with rfl | hn
      · exact addL_t.2 (.inr rfl)
      · exact addL_t.2 (.inl (h.eff n hn he))
    sub := fun i hi => by
      rcases addL_t.1 hi with hi | rfl
      · obtain ⟨n, h1, h2⟩ := h.sub i hi
        exact ⟨n, by simp [h1], h2⟩
      · exact ⟨⟨r, cCO X env r.o⟩, by simp, rfl⟩
    clo := fun n hn hi j hj => by
      rcases List.mem_cons.1 hn with rfl | hn
      · exact addL_t.2 (.inl (ha j hj))
      · rcases addL_t.1 hi with hi | e
        · exact addL_t.2 (.inl (h.clo n hn hi j hj))
        · have := (hd.mask r.i).2 ⟨n, hn, e⟩
          rw [hr.fresh] at this; cases this
    left := fun n hn hi => by
      obtain ⟨h1, h2⟩ := addL_f.1 hi
      rcases List.mem_cons.1 hn with rfl | hn
      · exact absurd rfl h2
      · obtain ⟨env1, dn1, m1, hs, hco, _, _, _⟩ := hd.suffix n hn
        have hleft := h.left n hn h1
        refine hleft.keep (env := env1) hco (plainq n hn h1) (fun t ht hlt => ?_) (dstq n hn h1) (fun k f hk hk0 hg => hv n hn h1 k f hk hk0 ((gsame n hn h1).trans hg) hg (dstq n hn h1)) hnx (fun b _ hb hm => hblk b hb hm) (fun b _ hb hm => hμ b hb hm) rfl
        by_cases hb : ∃ b f, cCO X env r.o = .pst b f ∧ t = b
        · obtain ⟨b, f, e1, e2⟩ := hb
          subst e2
          exact (hqb t f e1).2 (nouse n hn h1 t (by unfold usesN; exact List.mem_append_left _ ht))
        · rw [hq t hlt (nouse n hn h1 t (by unfold usesN; exact List.mem_append_left _ ht)) fun b f e1 e2 => hb ⟨b, f, e1, e2⟩]
    inj := fun n h1 n' h2 l1 l2 e k1 k2 => by
      obtain ⟨q1, q2⟩ := addL_f.1 l1
      obtain ⟨q3, q4⟩ := addL_f.1 l2
      rcases List.mem_cons.1 h1 with rfl | h1
      · exact absurd rfl q2
      · rcases List.mem_cons.1 h2 with rfl | h2
        · exact absurd rfl q4
        · exact h.inj n h1 n' h2 q1 q3 e ⟨k1.1, (gsame n h1 q1).trans k1.2⟩ ⟨k2.1, (gsame n' h2 q3).trans k2.2⟩ }
/-- what is looked at again -/
theorem DJ.ver (h : DJ X ops rd μ0 H0 w0 ns env dn L β μ H w τ a) {nv : List (Dn X.d)} {rest : OpR X.d} (hok : (cVer X ops nv rest).run τ' H' K = .done) {n : Dn X.d} (hn : n ∈ dn) (hl : L n.r.i = false) (hm : n ∈ nv) {k : Nat} {f : QT X.d → Heap → AV} (hco : n.co = .val k f)
    (hg : gAct X ops n.r.o τ = some true) (hg' : gAct X ops n.r.o τ' = some true) (hq : ∀ t, n.r.o.dst = some t → qget X.d t τ = qget X.d t τ') : f τ H = f τ' H' := by
  obtain ⟨k5, k6⟩ := cVer_ok _ _ hok
  obtain ⟨⟨k', f'', t, q1, q2⟩, q3⟩ := k6 n hm
  rw [q3 hg' k f t hco q2]
  rcases h.left n hn hl with ⟨gn, _⟩ | ⟨gn, kn⟩
  · rw [hg] at gn; cases gn
  · rw [hco] at kn
    obtain ⟨p1, p2⟩ := kn.2 t q2
    rw [← p2]
    exact hq t q2
theorem toVer_mem {ctl : Bool} {co : CO X.d} {n : Dn X.d} (hn : n ∈ dn) {k : Nat} {f : QT X.d → Heap → AV} (hco : n.co = .val k f) (ht : turns ctl co k = true) (ha : r.anc.testBit n.r.i = false) : n ∈ toVer ctl r co dn := by
  unfold toVer
  rw [List.mem_filter]
  refine ⟨hn, ?_⟩
  rw [hco]
  simp only
  rw [bA_true]
  exact ⟨ht, by rw [ha]; rfl⟩
theorem envFree_suffix {dst : Option Nat} (hs : env' <:+ env) (h : envFree env dst = true) : envFree env' dst = true := by
  unfold envFree at h ⊢
  cases dst with
  | none => rfl
  | some t =>
    simp only at h ⊢
    rw [List.all_eq_true] at h ⊢
    exact fun x hx => h x (hs.subset hx)
end
end Go.Ev

/-! Proofs, part 52: regions that draw: an effect (2). -/
namespace Go.Ev
set_option linter.unusedVariables false
set_option linter.unusedSimpArgs false
section
variable {X : Cx} {μ μ' μ0 : Mu} {w w' w0 : World} {H H' H0 : Heap} {τ τ' : QT X.d} {a a' : Act} {rd : Option Nat} {K : RK X.d} {env env' : List Ad} {m ns base : Nat} {L : Nat → Bool} {β : Nat → Nat} {dn : List (Dn X.d)} {ops : List Oper} {r : Row}
/-- what is asked of a row that has an effect, and of what comes next -/
structure EffHyp (X : Cx) (ops : List Oper) (rd : Option Nat) (μ0 : Mu) (H0 : Heap) (w0 : World) (ns : Nat) (env : List Ad) (dn : List (Dn X.d)) (m : Nat) (L : Nat → Bool) (β : Nat → Nat) (r : Row) (rest : OpR X.d) (K : RK X.d) (next : Act → World → Prop) (Q : Exit → Act → World → Prop) : Prop where
  hd : Done X ops env dn m
  hr : RowOK ops dn m r (cCO X env r.o)
  he : envFree env r.o.dst = true
  hee : r.eff = true
  ha : ∀ j, r.anc.testBit j = true → L j = true
  hn : ∀ μ' H' w' τ' a', DJ X ops rd μ0 H0 w0 ns (envOf (cCO X env r.o) env) (⟨r, cCO X env r.o⟩ :: dn) (addL L r.i) β μ' H' w' τ' a' → rest.run τ' H' K = .done → next a' w'
  hK : CallOK X.P X.ro K.call
  hx : ∀ v x μ H w τ a, RelE X rd [] (unl dn L) μ0 H0 w0 μ H w τ a → VR μ v x → K.kx (.pan v) τ H = .done → Q (.panic [{ v := x, recovered := false }]) a w
theorem EffHyp.uses {rest : OpR X.d} {next : Act → World → Prop} {Q : Exit → Act → World → Prop} (S : EffHyp X ops rd μ0 H0 w0 ns env dn m L β r rest K next Q) : ∀ t ∈ usesO ops r.o ++ usesC (cCO X env r.o), ¬ unl dn L t := by
  rintro t ht ⟨n, h1, h2, h3⟩
  have := S.hr.uses t ht n h1 h3
  rw [S.ha _ this] at h2; cases h2
theorem EffHyp.usesOk {rest : OpR X.d} {next : Act → World → Prop} {Q : Exit → Act → World → Prop} (S : EffHyp X ops rd μ0 H0 w0 ns env dn m L β r rest K next Q) : UsesOk (unl dn L) r.o := fun x hx t e => S.uses t (List.mem_append_left _ (by subst e; exact opd_uses hx))
theorem EffHyp.anc {rest : OpR X.d} {next : Act → World → Prop} {Q : Exit → Act → World → Prop} (S : EffHyp X ops rd μ0 H0 w0 ns env dn m L β r rest K next Q) {n : Dn X.d} (hl : L n.r.i = false) : r.anc.testBit n.r.i = false := by
  cases hb : r.anc.testBit n.r.i with
  | false => rfl
  | true => rw [S.ha _ hb] at hl; cases hl
/-- the heap goes on, a result is written -/
theorem EffHyp.put {rest : OpR X.d} {next : Act → World → Prop} {Q : Exit → Act → World → Prop} (S : EffHyp X ops rd μ0 H0 w0 ns env dn m L β r rest K next Q) (h : DJ X ops rd μ0 H0 w0 ns env dn L β μ H w τ a) {v : AV} {x : Value}
    (hnp : ¬ ∃ b f, cCO X env r.o = .pst b f) (hH' : HR μ' H' w') (hE' : Ext X.ro μ H w μ' H' w') (hv : Ok v → VR μ' v x) (ht : H' = H ∨ turns (isCtl r.o.op) (cCO X env r.o) 1 = true)
    (hok : (putC X r.o.dst (cVer X ops (toVer (isCtl r.o.op) r (cCO X env r.o) dn) rest)).f τ K v H' = .done) : next (a.put r.o.dst x) w' := by
  obtain ⟨k1, k2, k3⟩ := putC_inv hok
  have R0 := h.R env (List.suffix_refl _)
  obtain ⟨τ', e1, e2, e3, e4⟩ := dst_cases R0.hF (dst := r.o.dst) (v := v) (fun t e => (isPlain_inv (k2 t e)).1)
  rw [← e4] at k3
  refine S.hn μ' H' w' τ' _ (h.eff_next S.hd S.hr S.hee S.ha (fun env' hs => ?_) (h.E.trans hE') (fun hh => ?_) hE'.nx hE'.ab (fun b hb hm => ?_) (fun s hs hne _ => e2 s hs hne) (fun b f e => absurd ⟨b, f, e⟩ hnp) ?_) (cVer_ok _ _ k3).1
  · have R1 := (h.R env' hs).ext hH' hE'
    rcases e1 with ⟨hd0, rfl⟩ | ⟨t, v', hd0, hlt, hτ⟩
    · rw [hd0]; exact R1
    · have hτ2 : τ' = qset X.d t τ v := by rw [e4, hd0]; rfl
      rw [hd0, hτ2]
      exact R1.put (k2 t hd0) (by rw [← hd0]; exact envFree_suffix hs S.he) (hv k1)
  · rcases e1 with ⟨_, rfl⟩ | ⟨t, v', _, hlt, rfl⟩
    · exact h.D hh
    · rw [nt_set R0.hF hlt]; exact h.D hh
  · cases hm' : μ' b with
    | none => rfl
    | some mb =>
      have := (hE'.nw b mb hm' hm).1
      omega
  · intro n hn hl k f hco hk0 hg hg' hdst
    have key : (k = 1 → H = H') → f τ H = f τ' H' := fun hk => by
      obtain ⟨env1, dn1, m1, hs, hco1, _, _, _⟩ := S.hd.suffix n hn
      refine val_keep (ops := ops) (env := env1) (o := n.r.o) (hco1 ▸ hco) (h.R env1 hs).hE (fun t ht hlt => e2 t hlt fun e => ?_) hk
      have := (((S.hr.dst t e).2 n hn).2 (by unfold usesN; rw [hco]; exact ht)).2
      rw [S.ha _ this] at hl; cases hl
    by_cases hk : k = 1
    · subst hk
      rcases ht with ht | ht
      · exact key fun _ => ht.symm
      · exact h.ver k3 hn hl (toVer_mem hn hco ht (S.anc hl)) hco hg hg' hdst
    · exact key fun e => absurd e hk
/-- an effect that is no control -/
theorem EffHyp.co {rest : OpR X.d} {next : Act → World → Prop} {Q : Exit → Act → World → Prop} (S : EffHyp X ops rd μ0 H0 w0 ns env dn m L β r rest K next Q) (h : DJ X ops rd μ0 H0 w0 ns env dn L β μ H w τ a) (hc : isCtl r.o.op = false)
    (hok : (runCO X (cCO X env r.o) r.o.dst (cVer X ops (toVer (isCtl r.o.op) r (cCO X env r.o) dn) rest)).run τ H K = .done) : StepsTo X.P r.o a next ((execOp a.eval r.o).run X.P w) := by
  have R0 := h.R env (List.suffix_refl _)
  have hU := S.usesOk
  cases hco : cCO X env r.o with
  | bad k => rw [hco] at hok; cases hok
  | val k f =>
    have h1 : (putC X r.o.dst (cVer X ops (toVer (isCtl r.o.op) r (cCO X env r.o) dn) rest)).f τ K (f τ H) H = .done := by rw [hco] at hok ⊢; exact hok
    obtain ⟨k1, _, _⟩ := putC_inv h1
    obtain ⟨x, e1, e2⟩ := val_sound R0 hU (fun b e => S.uses b (List.mem_append_right _ (by rw [hco]; unfold usesC; simp only; rw [e]; simp [cT_eq]))) hco k1
    exact .inl ⟨_, _, e1, S.put h (by rintro ⟨b, f', e⟩; rw [hco] at e; cases e) R0.hH (.refl _ _ _ _) (fun _ => e2) (.inl rfl) h1⟩
  | eff f =>
    have h1 : f τ H ((putC X r.o.dst (cVer X ops (toVer (isCtl r.o.op) r (cCO X env r.o) dn) rest)).f τ K) = .done := by rw [hco] at hok ⊢; exact hok
    obtain ⟨x, w', μ', H', v, g1, g2, g3, g4, g5⟩ := eff_sound R0 hU hco h1
    have hnp : ¬ ∃ b f', cCO X env r.o = .pst b f' := by rintro ⟨b, f', e⟩; rw [hco] at e; cases e
    have ht : turns (isCtl r.o.op) (cCO X env r.o) 1 = true := by rw [hc, hco]; rfl
    rcases g1 with g1 | ⟨g1, rfl⟩
    · exact .inl ⟨_, _, g1, S.put h hnp g2 g3 (fun _ => g4) (.inr ht) g5⟩
    · exact .inr ⟨_, g1, S.put h hnp g2 g3 (fun _ => g4) (.inr ht) g5⟩
  | pst b f =>
    cases hdst : r.o.dst with
    | some t => rw [hco, hdst] at hok; cases hok
    | none =>
      have h0 : cT (bA (Nat.testBit X.pb b) (Nat.ble (Nat.succ b) X.nt)) (runSet 21 f (st X.d b).f (cVer X ops (toVer (isCtl r.o.op) r (cCO X env r.o) dn) rest).run) (failR 203) τ H K = .done := by
        rw [hco, hdst] at hok; rw [hco]; exact hok
      cases hcb : bA (Nat.testBit X.pb b) (Nat.ble (Nat.succ b) X.nt) with
      | false => rw [hcb] at h0; cases h0
      | true =>
        rw [hcb, cT_true] at h0
        unfold runSet at h0
        rw [tA_done, st_eq] at h0
        have hub : ¬ unl dn L b := S.uses b (List.mem_append_right _ (by rw [hco]; simp [usesC]))
        obtain ⟨c, ob, k1, k2, k3, k4, k5, k6, k7⟩ := pst_op_sound R0 hU hub hco h0.1
        refine .inr ⟨_, k6, ?_⟩
        rw [hdst]
        have hget : ∀ c', c' < w.heap.size → c' ≠ c → (w.setB c ob).heap[c']? = w.heap[c']? := fun c' h1 h2 => by rw [setB_get _ _ _ _ k5, if_neg h2]
        have qb : ∀ s, s < X.nt + 2 → s ≠ b → qget X.d s τ = qget X.d s (qset X.d b τ (f τ)) := fun s hs hne => by
          rw [qget_qset _ _ _ _ _ (R0.hF.pow (by omega)) (R0.hF.pow hs), if_neg hne]
        have qbb : qget X.d b (qset X.d b τ (f τ)) = f τ := by
          rw [qget_qset _ _ _ _ _ (R0.hF.pow (by omega)) (R0.hF.pow (by omega)), if_pos rfl]
        have eb : ∀ b' f', cCO X env r.o = .pst b' f' → b' = b := fun b' f' e => by rw [hco] at e; cases e; rfl
        refine S.hn μ H _ _ a (h.eff_next S.hd S.hr S.hee S.ha (fun env' hs => ?_) (h.E.privSet k7.ge k5 k7.un ob) (fun hh => by rw [nt_set R0.hF k1]; exact h.D hh) (Nat.le_refl _) (fun _ _ _ => rfl) (fun _ _ h => h)
          (fun s hs _ hne => qb s (by omega) (hne b f hco)) (fun b' f' e => by rw [eb b' f' e]; exact ⟨k2, fun _ => by rw [qbb, h0.1, k3]⟩) ?_) (cVer_ok _ _ h0.2).1
        · have R := h.R env' hs
          refine ⟨?_, ?_, R.hE, R.hG, R.hH.privSet k5 k7.un ob, by simpa using R.hb⟩
          · refine R.hF.box k1 k2 k4 R.hF.sz rfl (fun _ _ => rfl) k7 hget ?_
            intro t' hu hne hn' hb' ht e
            exact hne (R.hF.dj t' b hu hub hn' k1 hb' k2 ht k3 (by rw [e]; exact k4.symm))
          · intro t' ad hu hub' hf hn' hb' ht
            have hne : t' ≠ b := fun e => by
              rw [e, qbb, h0.1] at ht
              cases ht
            rw [← qb t' (by omega) hne] at ht
            exact R.hA t' ad hu hub' hf hn' hb' ht
        · intro n hn hl k f' hco' hk0 hg hg' hq
          obtain ⟨env1, dn1, m1, hs, hco1, _, _, _⟩ := S.hd.suffix n hn
          have hc1 : cCO X env1 n.r.o = .val k f' := hco1 ▸ hco'
          by_cases hkb : k = b + 2
          · exact h.ver h0.2 hn hl (toVer_mem hn hco' (by rw [hc, hco]; show Nat.beq k (Nat.add b 2) = true; rw [beq_t]; exact hkb) (S.anc hl)) hco' hg hg' hq
          · refine val_congr hc1 (fun x hx => ?_) (fun b' e => ?_) (fun _ => rfl)
            · cases x with
              | tmp t =>
                show cT (isPlain X t) (gt X.d t).f noG τ = cT (isPlain X t) (gt X.d t).f noG (qset X.d b τ (f τ))
                cases hp : isPlain X t with
                | true =>
                  obtain ⟨p1, p2, _⟩ := isPlain_inv hp
                  exact qb t (by omega) (fun e => by rw [e, k2] at p2; cases p2)
                | false => rfl
              | _ => rfl
            · subst e
              have hE1 := (h.R env1 hs).hE
              have hlt := (val_box hc1 hE1).1
              refine ⟨qb b' (by omega) (fun e => hkb (by rw [e])), fun t ht => ?_⟩
              obtain ⟨q1, q2⟩ := val_box2 hc1 hE1 t ht
              refine qb t (Nat.lt_of_lt_of_le q1 (Nat.le_add_right _ _)) (fun e => ?_)
              subst e
              exact hkb (by rw [q2 k2])
  | new f mk => exact absurd (by rw [hco]; rfl) (S.hr.kinde S.hee).1
  | pnew f => exact absurd (by rw [hco]; rfl) (S.hr.kinde S.hee).2.1
  | adr ad f => exact absurd (by rw [hco]; rfl) (S.hr.kinde S.hee).2.2
end
end Go.Ev

/-! Proofs, part 53: regions that draw: an effect (3): control. -/
namespace Go.Ev
set_option linter.unusedVariables false
set_option linter.unusedSimpArgs false
section
variable {X : Cx} {μ μ' μ0 : Mu} {w w' w0 : World} {H H' H0 : Heap} {τ τ' : QT X.d} {a a' : Act} {rd : Option Nat} {K : RK X.d} {env env' : List Ad} {m ns base : Nat} {L : Nat → Bool} {β : Nat → Nat} {dn : List (Dn X.d)} {ops : List Oper} {r : Row}
variable {rest : OpR X.d} {next : Act → World → Prop} {Q : Exit → Act → World → Prop}
theorem cCO_ctl {o : Oper} (h : isCtl o.op = true) : ∃ w, cCO X env o = .bad w := by
  rw [cCO_eq]
  unfold cCOs
  cases ho : o.op with
  | call c =>
    rw [ho] at h
    simp only [isCtl] at h ⊢
    split
    · rename_i b hb
      rw [hb] at h
      cases b with
      | recover => exact ⟨192, rfl⟩
      | _ => cases h
    · exact ⟨_, rfl⟩
  | defer c => exact ⟨_, rfl⟩
  | panic x => exact ⟨_, rfl⟩
  | _ => rw [ho] at h; cases h
theorem EffHyp.ret (S : EffHyp X ops rd μ0 H0 w0 ns env dn m L β r rest K next Q) (h : DJ X ops rd μ0 H0 w0 ns env dn L β μ H w τ a) (hc : isCtl r.o.op = true) (e : Ending) (w' : World)
    (hr : RetOK X.ro μ H w ((putC X r.o.dst (cVer X ops (toVer (isCtl r.o.op) r (cCO X env r.o) dn) rest)).f τ K) (kPan K τ) e w') :
    (match (generalizing := false) e, w' with
      | .returned v, w'' => next (a.put r.o.dst v) w''
      | .panicked chain, w'' => Q (.panic chain) a w''
      | .outgrown, _ => LetsOut Q) := by
  obtain ⟨wb, hb⟩ := cCO_ctl (X := X) (env := env) hc
  cases e with
  | returned v =>
    obtain ⟨μ', H', u, h1, h2, h3, h4⟩ := hr
    exact S.put h (by rintro ⟨b, f, e⟩; rw [hb] at e; cases e) h1 h2 (fun _ => h3) (.inr (by rw [hc]; rfl)) h4
  | panicked chain =>
    obtain ⟨μ', H', u, x, rfl, h1, h2, h3, h4⟩ := hr
    have R1 := (h.R [] List.nil_suffix).ext h1 h2
    exact S.hx u x _ _ _ _ _ ⟨R1, h.E.trans h2, h.D⟩ h3 h4
  | outgrown => exact hr.elim
theorem EffHyp.ctl (S : EffHyp X ops rd μ0 H0 w0 ns env dn m L β r rest K next Q) (h : DJ X ops rd μ0 H0 w0 ns env dn L β μ H w τ a) (hc : isCtl r.o.op = true)
    (hok : (ctlC X false r.o (cVer X ops (toVer (isCtl r.o.op) r (cCO X env r.o) dn) rest)).run τ H K = .done) : r.o.uponIn (Fr rd) 0 X.P a next Q ((r.o.semAt rd a.eval).run X.P w) := by
  have R0 := h.R env (List.suffix_refl _)
  have hU := S.usesOk
  unfold ctlC at hok
  split at hok
  · rename_i c ho
    have hs : r.o.semAt rd a.eval = execOp a.eval r.o := Oper.semAt_eq _ _ _ fun c' e => by rw [ho] at e; cases e
    rw [hs]
    have hUa : ∀ x ∈ c.args.toList, ∀ t, x = .tmp t → ¬ unl dn L t := fun x hx => hU x (by rw [ho]; simp [Op.operands, Call.operands]; right; simpa using hx)
    split at hok
    · cases hok
    · rename_i f hcal
      have hok : callSt2 f (putC X r.o.dst (cVer X ops (toVer (isCtl r.o.op) r (cCO X env r.o) dn) rest)).f τ H K (evals (c.args.toList.map (cOpd X)) τ) = .done := hok
      unfold callSt2 at hok
      rw [cA_done] at hok
      obtain ⟨ha, hok⟩ := hok
      have hargs := opds_rel (os := c.args.toList) R0.hF R0.hG hUa ha
      obtain ⟨⟨fn, k1, k2, k3⟩, k4⟩ := S.hK.fn _ _ _ _ _ μ w _ hok R0.hH R0.hG hargs
      rw [exec_call (fv := .func f) (first := #[]) (captured := #[]) ho hcal rfl, args_eq]
      have hinv : (invoke (.fn (.func f) #[]) (#[] ++ ⟨c.args.toList.map a.eval⟩)).run X.P w = .ok (.enter f ⟨c.args.toList.map a.eval⟩) w := by
        show (callFunc _ (#[] ++ ⟨c.args.toList.map a.eval⟩ ++ #[])).run X.P w = _
        rw [show (#[] : Array Value) ++ ⟨c.args.toList.map a.eval⟩ ++ #[] = ⟨c.args.toList.map a.eval⟩ by simp, callFunc_run k1 k2 k3]
      rw [hinv, Oper.uponIn_enter]
      refine ⟨(fun hd => by cases hd), ?_⟩
      exact (callsIn_fr (rd' := rd) k4).mono fun e w' hr => by have := S.ret h hc e w' hr; cases e <;> exact this
    · rename_i fo _ hcal
      have hok : callFn (cOpd X fo τ) (evals (c.args.toList.map (cOpd X)) τ) (putC X r.o.dst (cVer X ops (toVer (isCtl r.o.op) r (cCO X env r.o) dn) rest)).f τ H K = .done := hok
      have hUf : ∀ t, fo = .tmp t → ¬ unl dn L t := hU fo (by rw [ho]; simp [Op.operands, Call.operands, hcal])
      unfold callFn at hok
      rw [cA_done] at hok
      obtain ⟨ha, hok⟩ := hok
      have hargs := opds_rel (os := c.args.toList) R0.hF R0.hG hUa ha
      rcases cA_cases hok with ⟨h1, h2⟩ | ⟨h1, h2⟩
      · rw [beq_t] at h1
        have hfv := cOpd_rel (o := fo) R0.hF R0.hG hUf (ok3 h1 (by decide))
        obtain ⟨xs, ys, e1, e2, e3, _⟩ := hfv.inv_fn h1
        rw [appL_eq, appL_eq] at h2
        obtain ⟨⟨fn, k1, k2, k3⟩, k4⟩ := S.hK.fn _ _ _ _ _ μ w _ h2 R0.hH R0.hG (e2.append (hargs.append e3))
        rw [exec_call ho hcal e1, args_eq]
        have hinv : (invoke (.fn (.func (cOpd X fo τ).a) ⟨ys⟩) (⟨xs⟩ ++ ⟨c.args.toList.map a.eval⟩)).run X.P w = .ok (.enter (cOpd X fo τ).a ⟨xs ++ (c.args.toList.map a.eval ++ ys)⟩) w := by
          show (callFunc _ (⟨xs⟩ ++ ⟨c.args.toList.map a.eval⟩ ++ ⟨ys⟩)).run X.P w = _
          rw [arr_app, arr_app, callFunc_run k1 k2 k3, List.append_assoc]
        rw [hinv, Oper.uponIn_enter]
        refine ⟨(fun hd => by cases hd), ?_⟩
        exact (callsIn_fr (rd' := rd) k4).mono fun e w' hr => by have := S.ret h hc e w' hr; cases e <;> exact this
      · rw [tA_done] at h2
        obtain ⟨h3, h4⟩ := h2
        have hfv := cOpd_rel (o := fo) R0.hF R0.hG hUf (ok3 h3 (by decide))
        obtain ⟨m, e1, e2, e3⟩ := hfv.inv_yld h3
        rw [e3] at h4
        obtain ⟨f, ts, asg, body, k1, k2⟩ := S.hK.yld _ _ _ _ _ μ w m _ h4 R0.hH R0.hG e1 hargs
        rw [exec_call ho hcal e2, args_eq]
        have hinv : (invoke (.fn (.yield m.c) #[]) (#[] ++ ⟨c.args.toList.map a.eval⟩)).run X.P w = .ok (.round m.c f ts asg body) w := by
          rw [show (#[] : Array Value) ++ ⟨c.args.toList.map a.eval⟩ = ⟨c.args.toList.map a.eval⟩ by simp]
          exact k1
        rw [hinv, Oper.uponIn_round]
        refine ⟨(fun hd => by cases hd), ?_⟩
        exact (roundIn_fr (rd' := rd) k2).mono fun e w' hr => by have := S.ret h hc e w' hr; cases e <;> exact this
    · cases hok
  · rename_i c ho
    split at hok
    · rename_i f hcal hdst
      have h0 : defer2 (gt X.d X.nt).f (st X.d X.nt).f (cOpd X f τ) (evals (c.args.toList.map (cOpd X)) τ) (cVer X ops (toVer (isCtl r.o.op) r (cCO X env r.o) dn) rest).run τ H K = .done := hok
      unfold defer2 at h0
      rw [cA_done, tA_done, tA_done, gt_eq, st_eq] at h0
      obtain ⟨h1, h2, h3, h4⟩ := h0
      have hrd : rd = none := by
        cases hr : rd with
        | none => rfl
        | some l => exact absurd h3 (h.D (by rw [hr]; rfl))
      subst hrd
      rw [Oper.semAt_none]
      have hUa : ∀ x ∈ c.args.toList, ∀ t, x = .tmp t → ¬ unl dn L t := fun x hx => hU x (by rw [ho]; simp [Op.operands, Call.operands]; right; simpa using hx)
      have hUf : ∀ t, f = .tmp t → ¬ unl dn L t := hU f (by rw [ho]; simp [Op.operands, Call.operands, hcal])
      have hargs := opds_rel (os := c.args.toList) R0.hF R0.hG hUa h1
      have hfv := cOpd_rel (o := f) R0.hF R0.hG hUf (ok3 h2 (by decide))
      obtain ⟨xs, ys, e1, e2, e3, _⟩ := hfv.inv_fn h2
      have hrun : (execOp a.eval r.o).run X.P w = .ok (.defer { target := .fn (.func (cOpd X f τ).a) ⟨ys⟩, args := ⟨xs ++ c.args.toList.map a.eval⟩ }) w := by
        unfold execOp
        rw [ho]
        simp only
        rw [Sem.run_bind]
        unfold resolve
        rw [hcal]
        simp only [Deferred.ofValue, e1, Sem.run_pure, Result.andThen_ok, args_eq, arr_app]
      rw [hrun, Oper.uponIn_defer, hdst]
      rw [appL_eq] at h4
      obtain ⟨wb, hb⟩ := cCO_ctl (X := X) (env := env) hc
      have hnp : ∀ b f, cCO X env r.o ≠ .pst b f := fun b f e => by rw [hb] at e; cases e
      have q : ∀ s, s < X.nt → qget X.d s τ = qget X.d s (qset X.d X.nt τ (vTup (vFn (cOpd X f τ).a ((cOpd X f τ).l ++ evals (c.args.toList.map (cOpd X)) τ) (cOpd X f τ).m :: (qget X.d X.nt τ).l))) := fun s hs => by
        rw [qget_qset _ _ _ _ _ (R0.hF.pow (by omega)) (R0.hF.pow (by omega)), if_neg (by omega)]
      refine S.hn μ H w _ _ (h.eff_next S.hd S.hr S.hee S.ha (fun env' hs => ?_) h.E (fun hh => by cases hh) (Nat.le_refl _) (fun _ _ _ => rfl) (fun _ _ h => h) (fun s hs _ _ => q s hs) (fun b f e => absurd e (hnp b f)) ?_) (cVer_ok _ _ h4).1
      · have R := h.R env' hs
        exact ⟨R.hF.defer h3 (.fn (e2.append hargs) e3 (R.hF.df h3)), R.hA.defer R.hF, R.hE, R.hG, R.hH, R.hb⟩
      · intro n hn hl k f' hco hk0 hg hg' hq
        obtain ⟨env1, dn1, m1, hs, hco1, _, _, _⟩ := S.hd.suffix n hn
        exact val_keep (ops := ops) (env := env1) (o := n.r.o) (hco1 ▸ hco) (h.R env1 hs).hE (fun t ht hlt => q t hlt) fun _ => rfl
    · cases hok
  · rename_i x ho
    have hs : r.o.semAt rd a.eval = execOp a.eval r.o := Oper.semAt_eq _ _ _ fun c' e => by rw [ho] at e; cases e
    rw [hs]
    have h0 : runPanic (cOpd X x) τ H K = .done := hok
    unfold runPanic at h0
    rw [tA_done] at h0
    have hv := cOpd_rel (o := x) R0.hF R0.hG (hU x (by rw [ho]; simp [Op.operands])) (ok3 h0.1 (by decide))
    obtain ⟨u, y, e1, _⟩ := hv.inv_ifc h0.1
    have hrun : (execOp a.eval r.o).run X.P w = .halt (.panic (a.eval x)) w := by
      rw [exec_op _ ho]
      show (do pure (Next.value (← Instr.panic (a.eval x))) : Sem Next).run X.P w = _
      rw [Sem.run_bind, e1]
      rfl
    rw [hrun, Oper.uponIn_panic]
    exact S.hx _ _ _ _ _ _ _ ⟨h.R [] List.nil_suffix, h.E, h.D⟩ hv h0.2
  · cases hok
end
end Go.Ev

/-! Proofs, part 54: regions that draw: an effect (4): under its guard. -/
namespace Go.Ev
set_option linter.unusedVariables false
set_option linter.unusedSimpArgs false
section
variable {X : Cx} {μ μ' μ0 : Mu} {w w' w0 : World} {H H' H0 : Heap} {τ τ' : QT X.d} {a a' : Act} {rd : Option Nat} {K : RK X.d} {env env' : List Ad} {m ns base : Nat} {L : Nat → Bool} {β : Nat → Nat} {dn : List (Dn X.d)} {ops : Array Oper} {r : Row}
variable {rest : OpR X.d} {next : Act → World → Prop} {Q : Exit → Act → World → Prop}
theorem EffHyp.skip (S : EffHyp X ops.toList rd μ0 H0 w0 ns env dn m L β r rest K next Q) (h : DJ X ops.toList rd μ0 H0 w0 ns env dn L β μ H w τ a)
    (hok : (skipC X r.o.dst (cVer X ops.toList (toVer (isCtl r.o.op) r (cCO X env r.o) dn) rest)).run τ H K = .done) : next (a.put r.o.dst undef) w := by
  have R0 := h.R env (List.suffix_refl _)
  obtain ⟨k1, k2⟩ := skipC_inv hok
  obtain ⟨τ', e1, e2, e3, e4⟩ := dst_cases R0.hF (dst := r.o.dst) (v := undefA) k1
  rw [← e4] at k2
  refine S.hn μ H w τ' _ (h.eff_next S.hd S.hr S.hee S.ha (fun env' hs => ?_) h.E (fun hh => ?_) (Nat.le_refl _) (fun _ _ _ => rfl) (fun _ _ h => h) (fun s hs hne _ => e2 s hs hne) (fun b f e => ?_) ?_) (cVer_ok _ _ k2).1
  · have R1 := h.R env' hs
    rcases e1 with ⟨hd0, rfl⟩ | ⟨t, v', hd0, hlt, hτ⟩
    · rw [hd0]; exact R1
    · have hτ2 : τ' = qset X.d t τ undefA := by rw [e4, hd0]; rfl
      rw [hd0, hτ2]
      have he' : envFree env' (some t) = true := by rw [← hd0]; exact envFree_suffix hs S.he
      exact ⟨R1.hF.skip hlt (fun _ _ => .undef) (.inl (by decide)), R1.hA.put R1.hF hlt (.inl (by decide)) (envFree_inv he'), R1.hE, R1.hG, R1.hH, R1.hb⟩
  · rcases e1 with ⟨_, rfl⟩ | ⟨t, v', _, hlt, rfl⟩
    · exact h.D hh
    · rw [nt_set R0.hF hlt]; exact h.D hh
  · obtain ⟨t, xx, vv, p, ho, hp, hb, _⟩ := cCO_pst e
    obtain ⟨q1, q2⟩ := cAdr_box R0.hE hp
    subst hb
    exact ⟨q2, fun hne => by rw [e2 _ q1 hne]⟩
  · intro n hn hl k f hco hk0 hg hg' hq
    obtain ⟨env1, dn1, m1, hs, hco1, _, _, _⟩ := S.hd.suffix n hn
    refine val_keep (ops := ops.toList) (env := env1) (o := n.r.o) (hco1 ▸ hco) (h.R env1 hs).hE (fun t ht hlt => e2 t hlt fun e => ?_) fun _ => rfl
    have := (((S.hr.dst t e).2 n hn).2 (by unfold usesN; rw [hco]; exact ht)).2
    rw [S.ha _ this] at hl; cases hl
theorem EffHyp.ok (S : EffHyp X ops.toList rd μ0 H0 w0 ns env dn m L β r rest K next Q) (h : DJ X ops.toList rd μ0 H0 w0 ns env dn L β μ H w τ a)
    (hok : (cOp X false ops.toList (cCO X env r.o) r.o (cVer X ops.toList (toVer (isCtl r.o.op) r (cCO X env r.o) dn) rest)).run τ H K = .done) :
    if Region.wanted r.o (yielded ops a.tmps) = true then r.o.wpIn (Fr rd) 0 X.P a w next Q else (∀ f, r.o.about X.P w a.eval = some f → (Fr rd).fn f) ∧ next (a.put r.o.dst undef) w := by
  have R0 := h.R env (List.suffix_refl _)
  have hgu : ∀ {b}, gAct X ops.toList r.o τ = some b → Region.wanted r.o (yielded ops a.tmps) = b := fun hg => guard_okU R0 hg fun t ht => S.uses t (List.mem_append_left _ ht)
  rcases cOp_inv hok with ⟨g, h0⟩ | ⟨g, h0⟩
  · rw [if_pos (hgu g)]
    refine ⟨fun _ _ => trivial, ?_⟩
    show r.o.uponIn (Fr rd) 0 X.P a next Q ((r.o.semAt rd a.eval).run X.P w)
    unfold op1 at h0
    cases hc : isCtl r.o.op with
    | true =>
      rw [hc, cT_true, ← hc] at h0
      exact S.ctl h hc h0
    | false =>
      rw [hc, cT_false, ← hc] at h0
      have hs : r.o.semAt rd a.eval = execOp a.eval r.o := Oper.semAt_eq _ _ _ fun c' e => by rw [e] at hc; cases hc
      rw [hs]
      exact (S.co h hc h0).upon
  · have hw := hgu g
    rw [if_neg (by rw [hw]; decide)]
    exact ⟨fun _ _ => trivial, S.skip h h0⟩
end
end Go.Ev

/-! Proofs, part 55: regions that draw: plans; a panic forgets. -/
namespace Go.Ev
set_option linter.unusedVariables false
set_option linter.unusedSimpArgs false
section
variable {X : Cx} {μ μ' μ0 : Mu} {w w' w0 : World} {H H' H0 : Heap} {τ τ' : QT X.d} {a a' : Act} {rd : Option Nat} {K : RK X.d} {env env' : List Ad} {m ns base : Nat} {L : Nat → Bool} {β : Nat → Nat} {dn : List (Dn X.d)} {ops : List Oper} {r : Row} {U : Nat → Prop}
/-- the row of an operation -/
def RowIs (ops : List Oper) (r : Row) : Prop := ops[r.i]? = some r.o ∧ (ancs ops [])[r.i]? = some r.anc
theorem mkRows_mem : ∀ (i : Nat) (os : List Oper) (as : List Nat) (r : Row), r ∈ mkRows X i os as → ∃ k, r.i = i + k ∧ os[k]? = some r.o ∧ as[k]? = some r.anc
  | i, [], as, r, h => by simp [mkRows] at h
  | i, o :: os, [], r, h => by simp [mkRows] at h
  | i, o :: os, a :: as, r, h => by
    unfold mkRows at h
    rcases List.mem_cons.1 h with rfl | h
    · exact ⟨0, rfl, rfl, rfl⟩
    · obtain ⟨k, h1, h2, h3⟩ := mkRows_mem (i + 1) os as r h
      exact ⟨k + 1, by omega, by simpa using h2, by simpa using h3⟩
theorem rows_are (r : Row) (h : r ∈ mkRows X 0 ops (ancs ops [])) : RowIs ops r := by
  obtain ⟨k, h1, h2, h3⟩ := mkRows_mem 0 ops _ r h
  have : r.i = k := by omega
  exact ⟨by rw [this]; exact h2, by rw [this]; exact h3⟩
theorem planFrom_mem : ∀ (es rows : List Row), r ∈ planFrom es rows → r ∈ es ∨ r ∈ rows
  | [], rows, h => .inr h
  | e :: es, rows, h => by
    unfold planFrom at h
    rcases List.mem_append.1 h with h | h
    · exact .inr (List.mem_filter.1 h).1
    · rcases List.mem_cons.1 h with rfl | h
      · exact .inl (by simp)
      · rcases planFrom_mem es _ h with h | h
        · exact .inl (by simp [h])
        · exact .inr (List.mem_filter.1 h).1
theorem planOf_mem {rows : List Row} (h : r ∈ planOf rows) : r ∈ rows := by
  rcases planFrom_mem _ _ h with h | h <;> exact (List.mem_filter.1 h).1
theorem planOk_cons {rs : List Row} (h : planOk X ops env dn m (r :: rs) = true) : envFree env r.o.dst = true ∧ RowOK ops dn m r (cCO X env r.o) ∧ planOk X ops (envOf (cCO X env r.o) env) (⟨r, cCO X env r.o⟩ :: dn) (Nat.lor m (Nat.pow 2 r.i)) rs = true := by
  unfold planOk at h
  rw [bA_true, bA_true] at h
  exact ⟨h.1, rowOk_inv h.2.1, h.2.2⟩
theorem planOk_all : ∀ (rs : List Row) (env : List Ad) (dn : List (Dn X.d)) (m : Nat), Done X ops env dn m → planOk X ops env dn m rs = true → ∀ i, i < ops.length → (∃ n ∈ dn, n.r.i = i) ∨ ∃ r ∈ rs, r.i = i
  | [], env, dn, m, hd, h, i, hi => by
    have h : Nat.beq m (Nat.sub (Nat.pow 2 ops.length) 1) = true := h
    rw [beq_t] at h
    refine .inl ((hd.mask i).1 ?_)
    rw [h]
    show (2 ^ ops.length - 1).testBit i = true
    rw [Nat.testBit_two_pow_sub_one]
    exact decide_eq_true hi
  | r :: rs, env, dn, m, hd, h, i, hi => by
    obtain ⟨h1, h2, h3⟩ := planOk_cons h
    rcases planOk_all rs _ _ _ (.cons hd h2 h1) h3 i hi with ⟨n, k1, k2⟩ | ⟨r', k1, k2⟩
    · rcases List.mem_cons.1 k1 with rfl | k1
      · exact .inr ⟨r, by simp, k2⟩
      · exact .inl ⟨n, k1, k2⟩
    · exact .inr ⟨r', by simp [k1], k2⟩
theorem planOk_anc : ∀ (rs : List Row) (env : List Ad) (dn : List (Dn X.d)) (m : Nat), planOk X ops env dn m rs = true → ∀ n ∈ dn, n.r.eff = true → ∀ r ∈ rs, r.anc.testBit n.r.i = true
  | [], env, dn, m, h, n, hn, he, r, hr => by simp at hr
  | r0 :: rs, env, dn, m, h, n, hn, he, r, hr => by
    obtain ⟨h1, h2, h3⟩ := planOk_cons h
    rcases List.mem_cons.1 hr with rfl | hr
    · exact h2.eff n hn he
    · exact planOk_anc rs _ _ _ h3 n (by simp [hn]) he r hr
/-- the evaluator goes ahead to the next effect -/
theorem advance : ∀ (rs : List Row) (env : List Ad) (dn : List (Dn X.d)) (m : Nat) (β : Nat → Nat) (H : Heap) (τ : QT X.d), Done X ops env dn m → planOk X ops env dn m rs = true →
    DJ X ops rd μ0 H0 w0 ns env dn L β μ H w τ a → (cPlan X ops env dn rs).run τ H K = .done →
    ∃ env' dn' m' rs' β' H' τ', Done X ops env' dn' m' ∧ planOk X ops env' dn' m' rs' = true ∧ DJ X ops rd μ0 H0 w0 ns env' dn' L β' μ H' w τ' a ∧ (cPlan X ops env' dn' rs').run τ' H' K = .done ∧
      (∀ r ∈ rs', r ∈ rs) ∧ (∀ n ∈ dn', n ∈ dn ∨ n.r ∈ rs) ∧ (rs' = [] ∨ ∃ r rs'', rs' = r :: rs'' ∧ r.eff = true)
  | [], env, dn, m, β, H, τ, hd, hp, h, hok => ⟨env, dn, m, [], β, H, τ, hd, hp, h, hok, fun _ h => h, fun n hn => .inl hn, .inl rfl⟩
  | r :: rs, env, dn, m, β, H, τ, hd, hp, h, hok => by
    cases he : r.eff with
    | true => exact ⟨env, dn, m, r :: rs, β, H, τ, hd, hp, h, hok, fun _ h => h, fun n hn => .inl hn, .inr ⟨r, rs, rfl, he⟩⟩
    | false =>
      obtain ⟨h1, h2, h3⟩ := planOk_cons hp
      obtain ⟨β', H', τ', k1, k2⟩ := ahead_ok h hd h2 he hok
      obtain ⟨env', dn', m', rs', β'', H'', τ'', q1, q2, q3, q4, q5, q6, q7⟩ := advance rs _ _ _ β' H' τ' (.cons hd h2 h1) h3 k1 k2
      refine ⟨env', dn', m', rs', β'', H'', τ'', q1, q2, q3, q4, fun r' hr' => by simp [q5 r' hr'], fun n hn => ?_, q7⟩
      rcases q6 n hn with hn | hn
      · rcases List.mem_cons.1 hn with rfl | hn
        · exact .inr (by simp)
        · exact .inl hn
      · exact .inr (by simp [hn])
/-! ## A panic forgets -/
theorem FR.wipe (h : FR X base U μ w τ a) {t : Nat} (hn : t < X.nt) : FR X base (offU U t) μ w (qset X.d t τ vX) a := by
  have g : ∀ t', t' < X.nt + 2 → qget X.d t' (qset X.d t τ vX) = if t' = t then vX else qget X.d t' τ := fun t' ht' => qget_qset _ _ _ _ _ (h.pow (by omega)) (h.pow ht')
  have un : ∀ t', t' ≠ t → ¬ offU U t t' → ¬ U t' := fun t' e hu hu' => hu ⟨hu', e⟩
  have ne : ∀ t', t' < X.nt → (qget X.d t' (qset X.d t τ vX)).t = 21 → t' ≠ t := fun t' hl ht e => by
    rw [g t' (by omega), if_pos e] at ht; cases ht
  refine ⟨h.sz, h.dp, fun t' hu hp ho => ?_, fun t' hu hn' hb ht => ?_, fun t' t'' hu hu' hn' hn'' hb hb' ht ht' e => ?_, fun ht => ?_⟩
  · have hl := (isPlain_inv hp).1
    rw [g t' (by omega)] at ho ⊢
    by_cases e : t' = t
    · rw [if_pos e] at ho; simp at ho
    · rw [if_neg e] at ho ⊢; exact h.tm t' (un t' e hu) hp ho
  · have e := ne t' hn' ht
    rw [g t' (by omega), if_neg e] at ht ⊢
    exact h.bx t' (un t' e hu) hn' hb ht
  · have e1 := ne t' hn' ht
    have e2 := ne t'' hn'' ht'
    rw [g t' (by omega), if_neg e1] at ht
    rw [g t'' (by omega), if_neg e2] at ht'
    exact h.dj t' t'' (un t' e1 hu) (un t'' e2 hu') hn' hn'' hb hb' ht ht' e
  · rw [g X.nt (by omega), if_neg (by omega)] at ht ⊢; exact h.df ht
theorem wipe_ok {k : QT X.d → Ans} : ∀ (ts : List Nat) (U : Nat → Prop) (τ : QT X.d), (∀ t ∈ ts, t < X.nt) → RelE X rd [] U μ0 H0 w0 μ H w τ a → wipeK X.d ts τ k = .done →
    ∃ τ', RelE X rd [] (fun t => U t ∧ t ∉ ts) μ0 H0 w0 μ H w τ' a ∧ k τ' = .done
  | [], U, τ, hl, h, hk => ⟨τ, by simpa using h, hk⟩
  | t :: ts, U, τ, hl, h, hk => by
    unfold wipeK at hk
    rw [st_eq] at hk
    have ht := hl t (by simp)
    have h' : RelE X rd [] (offU U t) μ0 H0 w0 μ H w (qset X.d t τ vX) a :=
      ⟨⟨h.R.hF.wipe ht, (fun t ad _ _ hf _ _ _ => by cases hf), (fun ad had => by simp at had), h.R.hG, h.R.hH, h.R.hb⟩, h.E, fun hh => by rw [nt_set h.R.hF ht]; exact h.D hh⟩
    obtain ⟨τ', k1, k2⟩ := wipe_ok ts _ _ (fun t' h' => hl t' (by simp [h'])) h' hk
    refine ⟨τ', ?_, k2⟩
    have e : (fun t' => offU U t t' ∧ t' ∉ ts) = fun t' => U t' ∧ t' ∉ t :: ts := by
      funext s
      apply propext
      unfold offU
      simp only [List.mem_cons, not_or]
      exact ⟨fun ⟨⟨h1, h2⟩, h3⟩ => ⟨h1, h2, h3⟩, fun ⟨h1, h2, h3⟩ => ⟨⟨h1, h2⟩, h3⟩⟩
    rw [e] at k1
    exact k1
theorem freeT_mem {rows : List Row} {t : Nat} : t ∈ freeT X rows ↔ ∃ r ∈ rows, r.eff = false ∧ r.o.dst = some t ∧ t < X.nt := by
  unfold freeT
  rw [List.mem_filterMap]
  constructor
  · rintro ⟨r, h1, h2⟩
    cases he : r.eff with
    | true => rw [he] at h2; cases h2
    | false =>
      rw [he, cT_false] at h2
      cases hd : r.o.dst with
      | none => rw [hd] at h2; cases h2
      | some t' =>
        rw [hd] at h2
        simp only at h2
        rw [cT_eq] at h2
        split at h2
        · rename_i hb
          rw [ble_t] at hb
          cases h2
          exact ⟨r, h1, he, hd, hb⟩
        · cases h2
  · rintro ⟨r, h1, h2, h3, h4⟩
    refine ⟨r, h1, ?_⟩
    rw [h2, cT_false, h3]
    simp only
    rw [cT_eq, if_pos (by rw [ble_t]; exact h4)]
end
end Go.Ev

/-! Proofs, part 56: regions that draw: the whole. -/
namespace Go.Ev
set_option linter.unusedVariables false
set_option linter.unusedSimpArgs false
section
variable {X : Cx} {μ μ' μ0 : Mu} {w w' w0 : World} {H H' H0 : Heap} {τ τ' : QT X.d} {a a' : Act} {rd : Option Nat} {env env' : List Ad} {m ns base : Nat} {β : Nat → Nat} {dn : List (Dn X.d)} {ops : Array Oper} {r : Row}
/-- what is listed -/
def lst (listed : Array Bool) : Nat → Bool := fun i => listed.getD i false
theorem lst_set {listed : Array Bool} {i : Nat} (hi : i < listed.size) : lst (listed.setIfInBounds i true) = addL (lst listed) i := by
  funext j
  unfold lst addL
  by_cases h : i = j
  · subst h
    simp [hi]
  · rw [getD_set_ne false h]
    have : (j == i) = false := by simp; exact fun e => h e.symm
    rw [this, Bool.or_false]
theorem lst_false {listed : Array Bool} {i : Nat} (hi : i < listed.size) (h : lst listed i = false) : listed.getD i true = false := by
  unfold lst at h
  rw [Array.getD_eq_getD_getElem?, Array.getElem?_eq_getElem hi] at h ⊢
  exact h
theorem lst_ready {listed : Array Bool} {i : Nat} (h : listed.getD i true = false) : i < listed.size ∧ lst listed i = false := by
  have hi : i < listed.size := by
    rcases Nat.lt_or_ge i listed.size with h' | h'
    · exact h'
    · rw [Array.getD_eq_getD_getElem?, Array.getElem?_eq_none h'] at h; cases h
  refine ⟨hi, ?_⟩
  unfold lst
  rw [Array.getD_eq_getD_getElem?, Array.getElem?_eq_getElem hi] at h ⊢
  exact h
theorem count_set : ∀ (l : List Bool) (i : Nat), l[i]? = some false → (l.set i true).count false + 1 = l.count false
  | [], i, h => by simp at h
  | b :: l, 0, h => by
    have : b = false := by simpa using h
    subst this
    simp
  | b :: l, i + 1, h => by
    have := count_set l i (by simpa using h)
    rw [List.set_cons_succ, List.count_cons, List.count_cons]
    omega
/-- the ancestors of a row are behind its edges -/
theorem anc_iff {i : Nat} {o : Oper} (ho : ops[i]? = some o) {anc : Nat} (ha : (ancs ops.toList [])[i]? = some anc) (j : Nat) :
    anc.testBit j = true ↔ ∃ e ∈ o.after, Region.binds .any e = true ∧ (j = e.on ∨ (e.on < i ∧ (((ancs ops.toList [])[e.on]?).getD 0).testBit j = true)) := by
  have h := ancs_spec ops.toList [] i o j (by rw [Array.getElem?_toList]; exact ho)
  simp only [List.length_nil, Nat.zero_add] at h
  rw [ha] at h
  simp only [Option.getD_some, Array.mem_toList_iff] at h
  exact h
theorem anc_in {anc m j : Nat} (h : Nat.land anc m = anc) (hj : anc.testBit j = true) : m.testBit j = true := by
  have h2 : (anc &&& m) = anc := h
  have h3 : (anc &&& m).testBit j = true := by rw [h2]; exact hj
  rw [Nat.testBit_and, Bool.and_eq_true] at h3
  exact h3.2
/-- the state of a region that draws -/
structure PS (X : Cx) (ops : Array Oper) (rd : Option Nat) (μ0 : Mu) (H0 : Heap) (w0 : World) (ns : Nat) (rows : List Row) (K : RK X.d) (listed : Array Bool) (env : List Ad) (dn : List (Dn X.d)) (m : Nat) (rs : List Row) (β : Nat → Nat) (μ : Mu) (H : Heap) (τ : QT X.d) (a : Act) (w : World) : Prop where
  sz : listed.size = ops.size
  hd : Done X ops.toList env dn m
  hp : planOk X ops.toList env dn m rs = true
  h : DJ X ops.toList rd μ0 H0 w0 ns env dn (lst listed) β μ H w τ a
  ok : (cPlan X ops.toList env dn rs).run τ H K = .done
  rd : ∀ n ∈ dn, n.r ∈ rows
  rr : ∀ r ∈ rs, r ∈ rows
section
variable {rows : List Row} {K : RK X.d} {listed : Array Bool} {rs : List Row}
theorem PS.go (S : PS X ops rd μ0 H0 w0 ns rows K listed env dn m rs β μ H τ a w) : ∃ env' dn' m' rs' β' H' τ', PS X ops rd μ0 H0 w0 ns rows K listed env' dn' m' rs' β' μ H' τ' a w ∧ (rs' = [] ∨ ∃ r rs'', rs' = r :: rs'' ∧ r.eff = true) := by
  obtain ⟨env', dn', m', rs', β', H', τ', q1, q2, q3, q4, q5, q6, q7⟩ := advance rs env dn m β H τ S.hd S.hp S.h S.ok
  exact ⟨env', dn', m', rs', β', H', τ', ⟨S.sz, q1, q2, q3, q4, fun n hn => (q6 n hn).elim (S.rd n) (S.rr n.r), fun r hr => S.rr r (q5 r hr)⟩, q7⟩
variable (hrows : ∀ r ∈ rows, RowIs ops.toList r)
include hrows
theorem PS.anc (S : PS X ops rd μ0 H0 w0 ns rows K listed env dn m rs β μ H τ a w) {i : Nat} (hi : i ∈ Region.ready .any ops listed) (hr : r ∈ rows) (e : r.i = i) : ∀ j, r.anc.testBit j = true → lst listed j = true := by
  intro j hj
  obtain ⟨h1, o, ho, h2⟩ := mem_ready.1 hi
  obtain ⟨q1, q2⟩ := hrows r hr
  rw [e] at q1 q2
  obtain ⟨ed, k1, k2, k3⟩ := (anc_iff ho q2 j).1 hj
  have hl : lst listed ed.on = true := h2 ed k1 k2
  rcases k3 with rfl | ⟨k3, k4⟩
  · exact hl
  · obtain ⟨n, n1, n2⟩ := S.h.sub _ hl
    obtain ⟨p1, p2⟩ := hrows n.r (S.rd n n1)
    rw [n2] at p2
    rw [p2] at k4
    exact S.h.clo n n1 (by rw [n2]; exact hl) j k4
theorem PS.ready_of (S : PS X ops rd μ0 H0 w0 ns rows K listed env dn m rs β μ H τ a w) (hr : r ∈ rows) (hl : lst listed r.i = false) (ha : ∀ j, r.anc.testBit j = true → lst listed j = true) : r.i ∈ Region.ready .any ops listed := by
  obtain ⟨q1, q2⟩ := hrows r hr
  rw [Array.getElem?_toList] at q1
  have hlt : r.i < ops.size := (Array.getElem?_eq_some_iff.1 q1).1
  refine mem_ready.2 ⟨lst_false (by rw [S.sz]; exact hlt) hl, r.o, q1, fun e he hb => ?_⟩
  exact ha e.on ((anc_iff q1 q2 e.on).2 ⟨e, he, hb, .inl rfl⟩)
theorem PS.all (S : PS X ops rd μ0 H0 w0 ns rows K listed env dn m rs β μ H τ a w) (hn : Region.ready .any ops listed = []) : ∀ n ∈ dn, lst listed n.r.i = true := by
  have key : ∀ env' dn' m', Done X ops.toList env' dn' m' → (∀ n ∈ dn', n.r ∈ rows) → ∀ n ∈ dn', lst listed n.r.i = true := by
    intro env' dn' m' hd
    induction hd with
    | nil => intro _ n hn; simp at hn
    | @cons env1 dn1 m1 r1 hd1 hr1 he1 ih =>
      intro hin n hn1
      have ih' := ih fun n hn => hin n (by simp [hn])
      rcases List.mem_cons.1 hn1 with rfl | hn1
      · cases hl : lst listed r1.i with
        | true => rfl
        | false =>
          have := S.ready_of hrows (r := r1) (hin ⟨r1, cCO X env1 r1.o⟩ (by simp)) hl fun j hj => by
            have hm : m1.testBit j = true := anc_in hr1.anc hj
            obtain ⟨n', k1, k2⟩ := (hd1.mask j).1 hm
            rw [← k2]; exact ih' n' k1
          rw [hn] at this
          simp at this
      · exact ih' n hn1
  exact key env dn m S.hd S.rd
/-- nothing is ready: all is done -/
theorem PS.fin {Q : Exit → Act → World → Prop} (S : PS X ops rd μ0 H0 w0 ns rows K listed env dn m rs β μ H τ a w) (hx : rs = [] ∨ ∃ r rs', rs = r :: rs' ∧ r.eff = true) (hn : Region.ready .any ops listed = [])
    (hkn : ∀ μ H w τ a, RelE X rd [] NoU μ0 H0 w0 μ H w τ a → K.kn τ H = .done → Q .normal a w) : Q .normal a w := by
  have hall := S.all hrows hn
  have hun : unl dn (lst listed) = NoU := by
    funext s
    apply propext
    constructor
    · rintro ⟨n, h1, h2, _⟩
      rw [hall n h1] at h2; cases h2
    · exact fun h => h.elim
  rcases hx with rfl | ⟨r0, rs', rfl, he0⟩
  · refine hkn μ H w τ a ⟨?_, S.h.E, S.h.D⟩ S.ok
    rw [← hun]
    exact S.h.R [] List.nil_suffix
  · exfalso
    obtain ⟨h1, h2, h3⟩ := planOk_cons S.hp
    have hl : lst listed r0.i = false := by
      cases hl : lst listed r0.i with
      | false => rfl
      | true =>
        obtain ⟨n, k1, k2⟩ := S.h.sub _ hl
        have := (S.hd.mask r0.i).2 ⟨n, k1, k2⟩
        rw [h2.fresh] at this; cases this
    have := S.ready_of hrows (S.rr r0 (by simp)) hl fun j hj => by
      have hm : m.testBit j = true := anc_in h2.anc hj
      obtain ⟨n', k1, k2⟩ := (S.hd.mask j).1 hm
      rw [← k2]; exact hall n' k1
    rw [hn] at this
    simp at this
theorem sched {Q : Exit → Act → World → Prop} (hK : CallOK X.P X.ro K.call) (hkn : ∀ μ H w τ a, RelE X rd [] NoU μ0 H0 w0 μ H w τ a → K.kn τ H = .done → Q .normal a w)
    (hx : ∀ U : Nat → Prop, (∀ t, U t → t ∈ freeT X rows) → ∀ v x μ H w τ a, RelE X rd [] U μ0 H0 w0 μ H w τ a → VR μ v x → K.kx (.pan v) τ H = .done → Q (.panic [{ v := x, recovered := false }]) a w) :
    ∀ (fuel : Nat) (listed : Array Bool) (env : List Ad) (dn : List (Dn X.d)) (m : Nat) (rs : List Row) (β : Nat → Nat) (μ : Mu) (H : Heap) (τ : QT X.d) (a : Act) (w : World), listed.toList.count false ≤ fuel →
      PS X ops rd μ0 H0 w0 ns rows K listed env dn m rs β μ H τ a w → wpAnyIn (Fr rd) 0 X.P .any ops Q fuel listed a w := by
  intro fuel
  induction fuel with
  | zero =>
    intro listed env dn m rs β μ H τ a w hc S0
    have hnone : Region.ready .any ops listed = [] := by
      apply List.eq_nil_iff_forall_not_mem.2
      intro i hi
      obtain ⟨h1, _⟩ := mem_ready.1 hi
      obtain ⟨k1, k2⟩ := lst_ready h1
      have : false ∈ listed.toList := by
        unfold lst at k2
        rw [Array.getD_eq_getD_getElem?, Array.getElem?_eq_getElem k1] at k2
        simp only [Option.getD_some] at k2
        rw [← k2]
        exact Array.getElem_mem_toList k1
      have := List.count_pos_iff.2 this
      omega
    obtain ⟨env', dn', m', rs', β', H', τ', S, hx'⟩ := S0.go
    exact ⟨hnone, S.fin hrows hx' hnone hkn⟩
  | succ fuel ih =>
    intro listed env dn m rs β μ H τ a w hc S0
    obtain ⟨env, dn, m, rs, β, H, τ, S, hx'⟩ := S0.go
    refine ⟨fun hn => S.fin hrows hx' hn hkn, fun i hi => ?_⟩
    obtain ⟨h1, o, ho, h2⟩ := mem_ready.1 hi
    obtain ⟨k1, k2⟩ := lst_ready h1
    have hcnt : (listed.setIfInBounds i true).toList.count false ≤ fuel := by
      have : listed.toList[i]? = some false := by
        unfold lst at k2
        rw [Array.getElem?_toList, Array.getElem?_eq_getElem k1]
        rw [Array.getD_eq_getD_getElem?, Array.getElem?_eq_getElem k1] at k2
        exact congrArg some k2
      have := count_set _ _ this
      rw [Array.toList_setIfInBounds]
      omega
    have hsz' : (listed.setIfInBounds i true).size = ops.size := by rw [Array.size_setIfInBounds]; exact S.sz
    unfold wpOpIn
    rw [ho]
    simp only
    rcases planOk_all rs env dn m S.hd S.hp i (by rw [Array.length_toList, ← S.sz]; exact k1) with ⟨n, n1, n2⟩ | ⟨r, r1, r2⟩
    · -- a row that the evaluator has done
      have hrow := S.rd n n1
      have e : n.r.o = o := by
        have := (hrows _ hrow).1
        rw [n2, Array.getElem?_toList, ho] at this
        exact (Option.some.inj this).symm
      subst e
      refine late_ok S.h S.hd n1 (by rw [n2]; exact k2) (S.anc hrows hi hrow n2) fun μ' w' a' hj => ?_
      refine ih _ env dn m rs β μ' H τ a' w' hcnt ⟨hsz', S.hd, S.hp, ?_, S.ok, S.rd, S.rr⟩
      rw [lst_set k1, ← n2]
      exact hj
    · rcases hx' with rfl | ⟨r0, rs', rfl, he0⟩
      · simp at r1
      · obtain ⟨p1, p2, p3⟩ := planOk_cons S.hp
        have hl0 : lst listed r0.i = false := by
          cases hl : lst listed r0.i with
          | false => rfl
          | true =>
            obtain ⟨n, k1, k2⟩ := S.h.sub _ hl
            have := (S.hd.mask r0.i).2 ⟨n, k1, k2⟩
            rw [p2.fresh] at this; cases this
        rcases List.mem_cons.1 r1 with rfl | r1
        · have hrow := S.rr r (by simp)
          have e : r.o = o := by
            have := (hrows _ hrow).1
            rw [r2, Array.getElem?_toList, ho] at this
            exact (Option.some.inj this).symm
          subst e
          have SE : EffHyp X ops.toList rd μ0 H0 w0 ns env dn m (lst listed) β r (cPlan X ops.toList (envOf (cCO X env r.o) env) (⟨r, cCO X env r.o⟩ :: dn) rs') K (wpAnyIn (Fr rd) 0 X.P .any ops Q fuel (listed.setIfInBounds i true)) Q := {
            hd := S.hd
            hr := p2
            he := p1
            hee := he0
            ha := S.anc hrows hi hrow r2
            hn := fun μ' H' w' τ' a' hj hok => ih _ _ _ _ rs' β μ' H' τ' a' w' hcnt ⟨hsz', .cons S.hd p2 p1, p3, by rw [lst_set k1, ← r2]; exact hj, hok, (fun n hn => by
              rcases List.mem_cons.1 hn with rfl | hn
              · exact hrow
              · exact S.rd n hn), fun r hr => S.rr r (by simp [hr])⟩
            hK := hK
            hx := hx _ fun t ht => by
              obtain ⟨n, n1, n2, n3⟩ := ht
              obtain ⟨env1, dn1, m1, hs, hco, _, _, _⟩ := S.hd.suffix n n1
              refine freeT_mem.2 ⟨n.r, S.rd n n1, ?_, n3, (S.h.left n n1 n2).dst_lt hco n3⟩
              cases he : n.r.eff with
              | false => rfl
              | true => rw [S.h.eff n n1 he] at n2; cases n2 }
          have hok : (cOp X false ops.toList (cCO X env r.o) r.o (cVer X ops.toList (toVer (isCtl r.o.op) r (cCO X env r.o) dn) (cPlan X ops.toList (envOf (cCO X env r.o) env) (⟨r, cCO X env r.o⟩ :: dn) rs'))).run τ H K = .done := by
            have h0 : (cOp X false ops.toList (cCO X env r.o) r.o (cVer X ops.toList (cT r.eff (toVer (isCtl r.o.op) r (cCO X env r.o) dn) (cT (isNew (cCO X env r.o)) (toNew dn) [])) (cPlan X ops.toList (envOf (cCO X env r.o) env) (⟨r, cCO X env r.o⟩ :: dn) rs'))).run τ H K = .done := S.ok
            rw [he0, cT_true] at h0
            exact h0
          exact SE.ok S.h hok
        · exfalso
          have hb := planOk_anc rs' _ _ _ p3 ⟨r0, cCO X env r0.o⟩ (by simp) he0 r r1
          have := S.anc hrows hi (S.rr r (by simp [r1])) r2 _ hb
          rw [hl0] at this; cases this
end
theorem draw_ok {P : Program} {ro : Nat} (hP : ProgOK P ro) : DrawOK P ro := by
  intro X rd id ops eP hro call kn kx Q μ0 H0 w0 μ H w τ a hK h hok hkn hx
  subst eP
  refine wpIn_region_any hP.mixed ?_
  have h0 : (cT (planOk X ops.toList [] [] 0 (planOf (mkRows X 0 ops.toList (ancs ops.toList [])))) ⟨runW X.d (freeT X (mkRows X 0 ops.toList (ancs ops.toList []))) (cPlan X ops.toList [] [] (planOf (mkRows X 0 ops.toList (ancs ops.toList [])))).run⟩ (⟨failR 218⟩ : OpR X.d)).run τ H ⟨call, kn, kx⟩ = .done := hok
  cases hp : planOk X ops.toList [] [] 0 (planOf (mkRows X 0 ops.toList (ancs ops.toList []))) with
  | false => rw [hp] at h0; cases h0
  | true =>
    rw [hp, cT_true] at h0
    have h1 : (cPlan X ops.toList [] [] (planOf (mkRows X 0 ops.toList (ancs ops.toList [])))).run τ H ⟨call, kn, kxW X.d (freeT X (mkRows X 0 ops.toList (ancs ops.toList []))) kx⟩ = .done := h0
    have hun : unl ([] : List (Dn X.d)) (lst (Array.replicate ops.size false)) = NoU := by
      funext s
      apply propext
      constructor
      · rintro ⟨n, hn, _⟩; simp at hn
      · exact fun h => h.elim
    have hl : ∀ i, lst (Array.replicate ops.size false) i = false := fun i => by
      unfold lst
      rw [Array.getD_eq_getD_getElem?, Array.getElem?_replicate]
      split <;> rfl
    have hlike : Like w { w with drawn := w.drawn + 1 } := ⟨rfl, rfl, rfl⟩
    refine sched (X := X) (ns := H.nx) (μ0 := μ0) (H0 := H0) (w0 := w0) (rows := mkRows X 0 ops.toList (ancs ops.toList [])) (K := ⟨call, kn, kxW X.d (freeT X (mkRows X 0 ops.toList (ancs ops.toList []))) kx⟩) (fun r hr => rows_are r hr) hK hkn ?_
      ops.size (Array.replicate ops.size false) [] [] 0 (planOf (mkRows X 0 ops.toList (ancs ops.toList []))) (fun _ => 0) μ H τ a _ ?_ ?_
    · intro U hU v x μ H w τ a hR hv hk
      have hk' : wipeK X.d (freeT X (mkRows X 0 ops.toList (ancs ops.toList []))) τ (fun τ' => kx (.pan v) τ' H) = .done := hk
      obtain ⟨τ', k1, k2⟩ := wipe_ok _ _ _ (fun t ht => by obtain ⟨_, _, _, _, h4⟩ := freeT_mem.1 ht; exact h4) hR hk'
      have e : (fun t => U t ∧ t ∉ freeT X (mkRows X 0 ops.toList (ancs ops.toList []))) = NoU := by
        funext s
        apply propext
        exact ⟨fun ⟨h1, h2⟩ => h2 (hU s h1), fun h => h.elim⟩
      rw [e] at k1
      exact (hx _ _ _ _ _ k1).2.2 v x hv k2
    · rw [Array.toList_replicate, List.count_replicate_self]
      exact Nat.le_refl _
    · refine ⟨by simp, .nil, hp, ?_, h1, (fun n hn => by simp at hn), fun r hr => planOf_mem hr⟩
      exact {
        R := fun env' hs => by
          have : env' = [] := List.suffix_nil.1 hs
          subst this
          rw [hun]
          exact ⟨⟨h.R.hF.sz, h.R.hF.dp, h.R.hF.tm, fun t hu hn hb ht => let ⟨c, k1, k2⟩ := h.R.hF.bx t hu hn hb ht; ⟨c, k1, ⟨k2.ge, k2.ex, k2.un⟩⟩, h.R.hF.dj, h.R.hF.df⟩, h.R.hA, h.R.hE, h.R.hG, ⟨h.R.hH.dom, h.R.hH.blk, h.R.hH.inj, h.R.hH.nx, h.R.hH.fresh⟩, h.R.hb⟩
        E := ⟨h.E.mu, h.E.nw, h.E.nx, h.E.ab, h.E.sz, h.E.cb, h.E.ro, h.E.like.trans hlike⟩
        D := h.D
        nsb := ⟨h.E.nx, Nat.le_refl _⟩
        eff := fun n hn => by simp at hn
        sub := fun i hi => by rw [hl i] at hi; cases hi
        clo := fun n hn => by simp at hn
        left := fun n hn => by simp at hn
        inj := fun n hn => by simp at hn }
end
end Go.Ev

/-! Proofs, part 57: calls that have been proved: plain values. -/
namespace Go.Ev
set_option linter.unusedVariables false
set_option linter.unusedSimpArgs false
section
variable {μ μ' μ0 : Mu} {w w' : World} {H H' : Heap} {P : Program}
theorem flatVs_mem : ∀ {l : List AV}, flatVs l = true → ∀ i, i < l.length → flatV (l.getD i vX) = true
  | [], _, i, hi => by simp at hi
  | v :: l, h, i, hi => by
    unfold flatVs at h
    rw [bA_true] at h
    cases i with
    | zero => simpa using h.1
    | succ i => simpa using flatVs_mem h.2 i (by simpa using hi)
theorem flatV_l {v : AV} (h : flatV v = true) (ht : 19 ≤ v.t ∧ v.t ≤ 22 ∧ v.t ≠ 20) : flatVs v.l = true := by
  obtain ⟨t, a, b, c, d, l, m⟩ := v
  unfold flatV at h
  simp only at ht
  have e1 : bA (Nat.ble t 15) (bA (!Nat.beq t 3) (bA (!Nat.beq t 5) (!Nat.beq t 7))) = false := by
    cases hb : bA (Nat.ble t 15) (bA (!Nat.beq t 3) (bA (!Nat.beq t 5) (!Nat.beq t 7))) with
    | false => rfl
    | true => rw [bA_true, ble_t] at hb; omega
  have e2 : Nat.beq t 18 = false := beq_f (by omega)
  have e3 : Nat.beq t 20 = false := beq_f (by omega)
  have e4 : Nat.beq t 24 = false := beq_f (by omega)
  have e5 : bA (Nat.ble 19 t) (Nat.ble t 22) = true := by rw [bA_true, ble_t, ble_t]; omega
  rw [e1, e2, e3, e4, e5] at h
  exact h
theorem flatV_t {v : AV} (h : flatV v = true) : v.t ≠ 3 ∧ v.t ≠ 5 ∧ v.t ≠ 7 ∧ v.t ≠ 16 ∧ v.t ≠ 17 := by
  obtain ⟨t, a, b, c, d, l, m⟩ := v
  unfold flatV at h
  simp only
  by_cases h1 : t = 3 ∨ t = 5 ∨ t = 7 ∨ t = 16 ∨ t = 17
  · exfalso
    rcases h1 with rfl | rfl | rfl | rfl | rfl <;> cases h
  · omega
theorem VR.flat {v : AV} {x : Value} (h : VR μ v x) (hf : flatV v = true) : VR μ' v x := by
  induction h with
  | f => exact .f
  | t => exact .t
  | int k n h => exact .int k n h
  | str s => exact .str s
  | nilp => exact .nilp
  | nils => exact .nils
  | nilm => exact .nilm
  | nilf => exact .nilf
  | nili => exact .nili
  | ptr b o m h => exact absurd rfl (flatV_t hf).1
  | slK b o n cap m h hn => exact absurd rfl (flatV_t hf).2.1
  | slU b o n cap m h hn hz => exact absurd rfl (flatV_t hf).2.1
  | slE b o o' m h hz => exact absurd rfl (flatV_t hf).2.1
  | map b m h => exact absurd rfl (flatV_t hf).2.2.1
  | fn f l m xs ys => exact absurd rfl (flatV_t hf).2.2.2.1
  | yld b m h => exact absurd rfl (flatV_t hf).2.2.2.2
  | ifc t v x h ih =>
    have h1 : flatVs [v] = true := flatV_l hf (by simp [vIfc])
    exact .ifc t v x (ih (by simpa using flatVs_mem h1 0 (by simp)))
  | agg cs xs hl hl' h1 ih =>
    have h2 : flatVs cs = true := flatV_l hf (by simp [vAgg])
    exact .agg cs xs hl (fun i hi => ih i hi (flatVs_mem h2 i hi)) h1
  | tup cs xs hl hl' ih =>
    have h2 : flatVs cs = true := flatV_l hf (by simp [vTup])
    exact .tup cs xs hl (fun i hi => ih i hi (flatVs_mem h2 i hi))
theorem VRs.flat {l : List AV} {xs : List Value} (h : VRs μ l xs) (hf : flatVs l = true) : VRs μ' l xs := ⟨h.1, fun i hi => (h.2 i hi).flat (flatVs_mem hf i hi)⟩
theorem htGet_flat {df : List AV} (hd : flatVs df = true) : ∀ (f : Nat) (t : HT (List AV)) (i : Nat), flatT t = true → flatVs (htGet df f t i) = true
  | 0, t, i, _ => hd
  | f + 1, .e, i, _ => hd
  | f + 1, .n v a b c d, 0, h => by
    unfold flatT at h
    rw [bA_true] at h
    exact h.1
  | f + 1, .n v a b c d, i + 1, h => by
    unfold flatT at h
    rw [bA_true, bA_true, bA_true, bA_true] at h
    have e : htGet df (f + 1) (.n v a b c d) (i + 1) = htGet df f (sel4 (Nat.land i 3) a b c d) (Nat.shiftRight i 2) := rfl
    rw [e]
    refine htGet_flat hd f _ _ ?_
    unfold sel4
    rw [cT_eq, cT_eq, cT_eq]
    split
    · split
      · exact h.2.1
      · exact h.2.2.1
    · split
      · exact h.2.2.2.1
      · exact h.2.2.2.2
theorem BR.flat {ab : AB} {m : MB} {o : Obj} (h : BR μ ab m o) (hf : flatB ab = true) : BR μ' ab m o := by
  unfold flatB at hf
  rw [bA_true, bA_true, bA_true, ble_t, ble_t] at hf
  obtain ⟨⟨h1, h2⟩, h3, h4⟩ := hf
  cases h with
  | row ht hr =>
    refine .row ht ⟨?_, hr.len⟩
    obtain ⟨c, e, a1, a2, a3, a4, a5⟩ := hr.ex
    exact ⟨c, e, a1, a2, a3, a4.flat h3, a5⟩
  | arr ht ha =>
    refine .arr ht ⟨?_, ha.lt⟩
    obtain ⟨c, e, fr, a1, a2, a3, a4, a5, a6, a7⟩ := ha.ex
    exact ⟨c, e, fr, a1, a2, a3, a4, a5, a6, fun i hi => (a7 i hi).flat (htGet_flat h3 _ _ _ h4)⟩
  | x ht => omega
theorem htEq_eq : ∀ t u : HT (List AV), htEq t u = true → t = u
  | .e, .e, _ => rfl
  | .n v a b c d, .n v' a' b' c' d', h => by
    unfold htEq at h
    simp only [bA_true] at h
    rw [avEqs_eq _ _ h.1, htEq_eq _ _ h.2.1, htEq_eq _ _ h.2.2.1, htEq_eq _ _ h.2.2.2.1, htEq_eq _ _ h.2.2.2.2]
  | .e, .n .., h => by simp [htEq] at h
  | .n .., .e, h => by simp [htEq] at h
theorem BR.eq {x y : AB} {m : MB} {o : Obj} (h : BR μ x m o) (he : abEq x y = true) (hf : flatB y = true) : BR μ y m o := by
  obtain ⟨t, n, s, l, ee, ax⟩ := x
  obtain ⟨t', n', s', l', ee', ax'⟩ := y
  unfold abEq at he
  simp only [bA_true, beq_t] at he
  obtain ⟨rfl, rfl, rfl, he1, he2⟩ := he
  obtain rfl := avEqs_eq _ _ he1
  obtain rfl := htEq_eq _ _ he2
  unfold flatB at hf
  rw [bA_true, bA_true, ble_t, ble_t] at hf
  cases h with
  | row ht hr => exact .row ht hr
  | arr ht ha => exact .arr ht ha
  | x ht => simp only at ht hf; omega
theorem abEq_t {x y : AB} (he : abEq x y = true) : x.t = y.t := by
  unfold abEq at he
  rw [bA_true, beq_t] at he
  exact he.1
/-! ## The heap of the globals alone -/
theorem sel4_same {α : Type} (i : Nat) (x : α) : sel4 i x x x x = x := by
  unfold sel4
  rw [cT_eq, cT_eq, cT_eq]
  split <;> split <;> rfl
theorem heap0_get (n b : Nat) : hget (heap0 n) b = bDead := by
  have h1 : ∀ i, hg1 (q4 bDead) i = bDead := fun i => sel4_same (α := AB) _ bDead
  have h2 : ∀ i, hg2 (q4 (α := QH 1) (q4 bDead)) i = bDead := fun i => (congrArg (fun x => hg1 x i) (sel4_same (α := QH 1) _ (q4 bDead))).trans (h1 i)
  have h3 : ∀ i, hg3 (q4 (α := QH 2) (q4 (α := QH 1) (q4 bDead))) i = bDead := fun i => (congrArg (fun x => hg2 x i) (sel4_same (α := QH 2) _ (q4 (α := QH 1) (q4 bDead)))).trans (h2 i)
  have h4 : ∀ i, hg4 (q4 (α := QH 3) (q4 (α := QH 2) (q4 (α := QH 1) (q4 bDead)))) i = bDead := fun i => (congrArg (fun x => hg3 x i) (sel4_same (α := QH 3) _ (q4 (α := QH 2) (q4 (α := QH 1) (q4 bDead))))).trans (h3 i)
  have h5 : ∀ i, hg5 (q4 (α := QH 4) (q4 (α := QH 3) (q4 (α := QH 2) (q4 (α := QH 1) (q4 bDead))))) i = bDead := fun i => (congrArg (fun x => hg4 x i) (sel4_same (α := QH 4) _ (q4 (α := QH 3) (q4 (α := QH 2) (q4 (α := QH 1) (q4 bDead)))))).trans (h4 i)
  have h6 : ∀ i, hg6 (q4 (α := QH 5) (q4 (α := QH 4) (q4 (α := QH 3) (q4 (α := QH 2) (q4 (α := QH 1) (q4 bDead)))))) i = bDead := fun i => (congrArg (fun x => hg5 x i) (sel4_same (α := QH 5) _ (q4 (α := QH 4) (q4 (α := QH 3) (q4 (α := QH 2) (q4 (α := QH 1) (q4 bDead))))))).trans (h5 i)
  have h7 : ∀ i, hg7 (q4 (α := QH 6) (q4 (α := QH 5) (q4 (α := QH 4) (q4 (α := QH 3) (q4 (α := QH 2) (q4 (α := QH 1) (q4 bDead))))))) i = bDead := fun i => (congrArg (fun x => hg6 x i) (sel4_same (α := QH 6) _ (q4 (α := QH 5) (q4 (α := QH 4) (q4 (α := QH 3) (q4 (α := QH 2) (q4 (α := QH 1) (q4 bDead)))))))).trans (h6 i)
  exact (congrArg (fun x => hg7 x b) (sel4_same (α := QH 7) _ (q4 (α := QH 6) (q4 (α := QH 5) (q4 (α := QH 4) (q4 (α := QH 3) (q4 (α := QH 2) (q4 (α := QH 1) (q4 bDead))))))))).trans (h7 b)
theorem gput_spec : ∀ (gs : List AB) (i : Nat) (H : Heap), i + gs.length ≤ 65535 → (gput gs i H).nx = H.nx ∧ ∀ b, b < 65536 → hget (gput gs i H) b = if i ≤ b then (gs[b - i]?).getD (hget H b) else hget H b
  | [], i, H, _ => ⟨rfl, fun b _ => by simp [gput]⟩
  | g :: gs, i, H, hl => by
    simp only [List.length_cons] at hl
    obtain ⟨h1, h2⟩ := gput_spec gs (i + 1) (hset H i g) (by omega)
    refine ⟨h1, fun b hb => ?_⟩
    show hget (gput gs (i + 1) (hset H i g)) b = _
    rw [h2 b hb, hget_hset H i b g (by omega) hb]
    by_cases e : b = i
    · subst e
      rw [if_neg (by omega), if_pos rfl, if_pos (Nat.le_refl _)]
      simp
    · rw [if_neg e]
      by_cases hlt : i ≤ b
      · rw [if_pos (by omega), if_pos hlt]
        have : b - i = (b - (i + 1)) + 1 := by omega
        rw [this, List.getElem?_cons_succ]
      · rw [if_neg (by omega), if_neg hlt]
theorem heapG_spec {gs : List AB} (hl : gs.length ≤ 65535) : (heapG gs).nx = gs.length ∧ ∀ b, b < 65536 → hget (heapG gs) b = (gs[b]?).getD bDead := by
  obtain ⟨h1, h2⟩ := gput_spec gs 0 (heap0 gs.length) (by omega)
  refine ⟨h1, fun b hb => ?_⟩
  have := h2 b hb
  rw [if_pos (Nat.zero_le _), Nat.sub_zero, heap0_get] at this
  exact this
theorem gsOk_get : ∀ (gs : List AB) (i : Nat) (H : Heap), gsOk gs i H = true → ∀ b g, gs[b]? = some g → abEq (hget H (i + b)) g = true
  | [], i, H, _, b, g, h => by simp at h
  | g0 :: gs, i, H, hk, b, g, h => by
    have hk : bA (abEq (hget H i) g0) (gsOk gs (Nat.succ i) H) = true := hk
    rw [bA_true] at hk
    cases b with
    | zero =>
      have : g0 = g := by simpa using h
      rw [← this]; exact hk.1
    | succ b =>
      have := gsOk_get gs (i + 1) H hk.2 b g (by simpa using h)
      rw [show i + (b + 1) = i + 1 + b by omega]; exact this
/-- the globals alone -/
def onlyG (n : Nat) (μ : Mu) : Mu := fun b => if b < n then μ b else none
theorem onlyG_some {n b : Nat} {m : MB} (h : onlyG n μ b = some m) : b < n ∧ μ b = some m := by
  unfold onlyG at h
  split at h
  · rename_i hb; exact ⟨hb, h⟩
  · cases h
theorem HR.onlyG {gs : List AB} (h : HR μ H w) (hf : gs.all flatB = true) (hk : gsOk gs 0 H = true) (hl : gs.length ≤ 65535) : HR (onlyG gs.length μ) (heapG gs) w := by
  obtain ⟨e1, e2⟩ := heapG_spec hl
  have get : ∀ b, b < gs.length → ∃ g, gs[b]? = some g ∧ hget (heapG gs) b = g ∧ abEq (hget H b) g = true ∧ flatB g = true := fun b hb => by
    refine ⟨gs[b], by simp [hb], by rw [e2 b (by omega)]; simp [hb], ?_, (List.all_eq_true.1 hf) _ (List.getElem_mem hb)⟩
    have := gsOk_get gs 0 H hk b gs[b] (by simp [hb])
    rw [Nat.zero_add] at this; exact this
  refine ⟨fun b m hb => ?_, fun b m hb hlv => ?_, fun b b' m m' h1 h2 l1 l2 e => ?_, by omega, fun b h1 h2 => ?_⟩
  · obtain ⟨k1, k2⟩ := onlyG_some hb
    exact ⟨by omega, (h.dom b m k2).2⟩
  · obtain ⟨k1, k2⟩ := onlyG_some hb
    obtain ⟨g, _, g2, g3, g4⟩ := get b k1
    rw [g2] at hlv ⊢
    obtain ⟨o, o1, o2⟩ := h.blk b m k2 (by rw [abEq_t g3]; exact hlv)
    exact ⟨o, o1, (o2.eq g3 g4).flat g4⟩
  · obtain ⟨k1, k2⟩ := onlyG_some h1
    obtain ⟨k3, k4⟩ := onlyG_some h2
    obtain ⟨g, _, g2, g3, _⟩ := get b k1
    obtain ⟨g', _, g2', g3', _⟩ := get b' k3
    rw [g2, ← abEq_t g3] at l1
    rw [g2', ← abEq_t g3'] at l2
    exact h.inj b b' m m' k2 k4 l1 l2 e
  · rw [e2 b h2, List.getElem?_eq_none (by omega)]; rfl
theorem GR.onlyG {gs : List AB} (h : GR gs.length μ H) (hk : gsOk gs 0 H = true) (hl : gs.length ≤ 65535) : GR gs.length (onlyG gs.length μ) (heapG gs) := by
  obtain ⟨e1, e2⟩ := heapG_spec hl
  intro g hg
  obtain ⟨⟨m, k1, k2, k3⟩, k4, k5⟩ := h g hg
  have hb := gsOk_get gs 0 H hk g gs[g] (by simp [hg])
  rw [Nat.zero_add] at hb
  have hg' : hget (heapG gs) g = gs[g] := by rw [e2 g (by omega)]; simp [hg]
  refine ⟨⟨m, by unfold Go.Ev.onlyG; rw [if_pos hg]; exact k1, k2, k3⟩, ?_, ?_⟩
  · rw [hg', ← abEq_t hb]; exact k4
  · rw [hg', ← abEq_t hb]; exact k5
/-- no cell that was there has turned -/
theorem Ext.same {gs : List AB} {H0 : Heap} (h : Ext gs.length μ0 H0 w μ' H' w') (hμ : ∀ b m, μ0 b = some m → b < gs.length) (hG : GR gs.length μ0 H0) : ∀ c, c < w.heap.size → w'.heap[c]? = w.heap[c]? := by
  intro c hc
  by_cases he : ∃ b m, μ0 b = some m ∧ m.c = c
  · obtain ⟨b, m, h1, h2⟩ := he
    rw [← h2]
    exact (h.ro b m (hμ b m h1) h1 (hG b (hμ b m h1)).2.1).2
  · exact h.cb c hc fun b m h1 h2 => he ⟨b, m, h1, h2⟩
end
end Go.Ev

/-! Proofs, part 58: calls that have been proved: one more; a closed call. -/
namespace Go.Ev
set_option linter.unusedVariables false
set_option linter.unusedSimpArgs false
section
variable {μ μ' μ0 : Mu} {w w' : World} {H H' : Heap} {P : Program} {ro : Nat}
theorem HR.world (h : HR μ H w) (hs : ∀ c, c < w.heap.size → w'.heap[c]? = w.heap[c]?) (hz : w.heap.size ≤ w'.heap.size) : HR μ H w' :=
  ⟨fun b m hb => ⟨(h.dom b m hb).1, Nat.lt_of_lt_of_le (h.dom b m hb).2 hz⟩, fun b m hb hl => let ⟨o, h1, h2⟩ := h.blk b m hb hl; ⟨o, (hs _ (get_lt h1)).trans h1, h2⟩, h.inj, h.nx, h.fresh⟩
/-- a block that another run has made -/
theorem HR.graft (h : HR μ H w) (hx : H.nx ≤ 65534) (hs : ∀ c, c < w.heap.size → w'.heap[c]? = w.heap[c]?) (hz : w.heap.size ≤ w'.heap.size) (hL : Like w w') {ab : AB} {m : MB} {o : Obj} (hc : w.heap.size ≤ m.c) (ho : w'.heap[m.c]? = some o) (hb : BR (μ.put H.nx m) ab m o) :
    HR (μ.put H.nx m) (hnew H ab) w' ∧ Ext ro μ H w (μ.put H.nx m) (hnew H ab) w' := by
  have hn := h.none
  have hle := Mu.put_le (m := m) hn
  have old : ∀ b m', (μ.put H.nx m) b = some m' → b ≠ H.nx → μ b = some m' := fun b m' hb' e => by simpa [Mu.put, e] using hb'
  have new : ∀ m', (μ.put H.nx m) H.nx = some m' → m' = m := fun m' hb' => by simpa [Mu.put] using hb'.symm
  have g : ∀ b, b < 65536 → hget (hnew H ab) b = if b = H.nx then ab else hget H b := fun b hb' => hget_hnew H b ab (by omega) hb'
  have hmc := get_lt ho
  have dom' : ∀ b m', (μ.put H.nx m) b = some m' → b < H.nx + 1 ∧ m'.c < w'.heap.size := fun b m' hb' => by
    by_cases e : b = H.nx
    · subst e; rw [new _ hb']; omega
    · have := h.dom b m' (old _ _ hb' e); omega
  refine ⟨⟨fun b m' hb' => by simpa using dom' b m' hb', fun b m' hb' hl => ?_, fun b b' m1 m2 h1 h2 l1 l2 e => ?_, by simp; omega, fun b h1 h2 => ?_⟩,
    ⟨hle, fun b m' h1 h2 => ?_, by simp, fun b h1 h2 => ?_, hz, fun c h1 h2 => hs c h1, fun b m' h1 h2 h3 => ?_, hL⟩⟩
  · have hlt := (dom' b m' hb').1
    rw [g b (by omega)] at hl ⊢
    by_cases e : b = H.nx
    · subst e
      obtain rfl := new _ hb'
      exact ⟨o, ho, by simpa using hb⟩
    · simp only [e, if_false] at hl ⊢
      obtain ⟨o', h1, h2⟩ := h.blk b m' (old _ _ hb' e) hl
      exact ⟨o', (hs _ (get_lt h1)).trans h1, h2.mono hle⟩
  · have a1 := (dom' b m1 h1).1
    have a2 := (dom' b' m2 h2).1
    rw [g b (by omega)] at l1
    rw [g b' (by omega)] at l2
    by_cases e1 : b = H.nx
    · by_cases e2 : b' = H.nx
      · omega
      · subst e1
        rw [new _ h1] at e
        have := (h.dom _ _ (old _ _ h2 e2)).2
        omega
    · by_cases e2 : b' = H.nx
      · subst e2
        rw [new _ h2] at e
        have := (h.dom _ _ (old _ _ h1 e1)).2
        omega
      · simp only [e1, e2, if_false] at l1 l2
        exact h.inj b b' m1 m2 (old _ _ h1 e1) (old _ _ h2 e2) l1 l2 e
  · simp only [hnew_nx] at h1
    rw [g b h2, if_neg (by omega)]
    exact h.fresh b (by omega) h2
  · by_cases e : b = H.nx
    · subst e; obtain rfl := new _ h1; exact ⟨Nat.le_refl _, .inl hc⟩
    · rw [old _ _ h1 e] at h2; cases h2
  · rw [g b (by have := h.nx; omega), if_neg (by omega)]
  · have := h.dom _ _ h2
    rw [g b (h.lt h2), if_neg (by omega)]
    exact ⟨rfl, hs _ this.2⟩
theorem VR.reslice {u : AV} {v : Value} (h : VR μ' u v) (ht : u.t = 5) {b : Nat} (hm : ∀ m, μ' u.a = some m → μ b = some m) : VR μ (vSl b u.b u.c u.d) v := by
  cases h with
  | slK b' o n cap m h hn => exact .slK b o n cap m (hm m h) hn
  | slU b' o n cap m h hn hz => exact .slU b o n cap m (hm m h) hn hz
  | slE b' o o' m h hz => exact .slE b o o' m (hm m h) hz
  | int k n h => exfalso; have := kc_range k; simp [vInt] at ht; omega
  | _ => simp [vF, vT, vInt, vStr, vPtr, vNilp, vSl, vNils, vMap, vNilm, vFn, vYld, vNilf, vIfc, vNili, vAgg, vTup] at ht
theorem OrcOK.nil {gs : List AB} : OrcOK P gs [] := fun o h => by simp at h
/-- one more call -/
theorem OrcOK.add {gs : List AB} {os : List Orc} {mk n : Nat} {o : Orc} (hE : OrcOK P gs os) (hP : ProgOK P gs.length) (hf : gs.all flatB = true) (hl : gs.length ≤ 65535) (ha : flatVs o.args = true) (hr : flatR o.res = true)
    (h : orcTry P ⟨mk, gs, os⟩ n o = .done) : OrcOK P gs (o :: os) := by
  intro o' ho'
  rcases List.mem_cons.1 ho' with rfl | ho'
  · intro m' os' μ H w xs kret kpan hrun hH hG hv
    unfold orcRun at hrun
    rw [cA_done] at hrun
    obtain ⟨hk, hres⟩ := hrun
    obtain ⟨c1, c2⟩ := (callN_ok (E := ⟨mk, gs, os⟩) hP (draw_ok hP) hE n).fn o'.f o'.args (heapG gs) (kOrc gs.length o'.res) kNo (onlyG gs.length μ) w xs h (hH.onlyG hf hk hl) (hG.onlyG hk hl) (hv.flat ha)
    refine ⟨c1, c2.mono fun e w' hr' => ?_⟩
    cases e with
    | outgrown => exact hr'.elim
    | panicked chain =>
      obtain ⟨μ', H', u, x, _, _, _, _, k4⟩ := hr'
      cases k4
    | returned v =>
      obtain ⟨μ', H', u, k1, k2, k3, k4⟩ := hr'
      have hG0 := hG.onlyG (μ := μ) hk hl
      have hs := k2.same (fun b m hb => (onlyG_some hb).1) hG0
      have hext : Ext gs.length μ H w μ H w' := ⟨Mu.le_refl _, fun b m h1 h2 => (by rw [h1] at h2; cases h2), Nat.le_refl _, fun _ _ _ => rfl, k2.sz, fun c hc _ => hs c hc, fun b m _ h2 h3 => ⟨rfl, hs _ (hH.dom b m h2).2⟩, k2.like⟩
      cases hres' : o'.res with
      | flat v0 =>
        rw [hres'] at k4 hres hr
        have k4 : cA (avEq u v0) .done (.fail 1) = .done := k4
        rw [cA_done] at k4
        obtain rfl := avEq_eq _ _ k4.1
        exact ⟨μ, H, u, hH.world hs k2.sz, hext, k3.flat hr, hres⟩
      | sl off len c ab =>
        rw [hres'] at k4 hres hr
        have k4 : tA u 5 (cA (bA (Nat.ble gs.length u.a) (bA (Nat.beq u.b off) (bA (Nat.beq u.c len) (bA (Nat.beq u.d c) (abEq (hget H' u.a) ab))))) .done (.fail 1)) = .done := k4
        rw [tA_done, cA_done] at k4
        simp only [bA_true, ble_t, beq_t] at k4
        obtain ⟨ht, ⟨k5, rfl, rfl, rfl, k6⟩, _⟩ := k4
        have hres : hnewK H ab (fun b H' => kret (vSl b u.b u.c u.d) H') = .done := hres
        rw [hnewK_done] at hres
        obtain ⟨m, off, cap, q1, _⟩ := k3.inv_sl ht
        have hfl : flatB ab = true := hr
        have hlive : (hget H' u.a).t ≠ 0 := by
          rw [abEq_t k6]
          unfold flatB at hfl
          rw [bA_true, bA_true, ble_t] at hfl
          have := hfl.1.1
          omega
        obtain ⟨ob, q2, q3⟩ := k1.blk u.a m q1 hlive
        have hnone : onlyG gs.length μ u.a = none := by unfold onlyG; rw [if_neg (by omega)]
        have hmc : w.heap.size ≤ m.c := by
          rcases (k2.nw u.a m q1 hnone).2 with hh | ⟨b0, m0, e1, e2⟩
          · exact hh
          · exfalso
            have hb0 := (onlyG_some e1).1
            have hg0 := hG0 b0 hb0
            have := (k2.ro b0 m0 hb0 e1 hg0.2.1).1
            have := k1.inj b0 u.a m0 m (k2.mu _ _ e1) q1 (by rw [this]; exact hg0.2.1) hlive e2
            omega
        obtain ⟨g1, g2⟩ := hH.graft (ro := gs.length) hres.1 hs k2.sz k2.like hmc q2 ((q3.eq k6 hfl).flat (μ' := μ.put H.nx m) hfl)
        exact ⟨_, _, _, g1, g2, k3.reslice ht fun m' hm' => by rw [q1] at hm'; cases hm'; simp [Mu.put], hres.2⟩
  · exact hE o' ho'

/-- the globals hold this -/
def GlobalsAre (gs : List AB) (mb : Nat → MB) (w : World) : Prop := ∀ g A, gs[g]? = some A → (mb g).c = g ∧ (mb g).q = 0 ∧ ∃ o, w.heap[g]? = some o ∧ BR (fun _ => Option.none) A (mb g) o
/-- .. and are related to the heap of the globals alone -/
theorem globals_rel {gs : List AB} (hf : gs.all flatB = true) (hl : gs.length ≤ 65535) {mb : Nat → MB} (hg : GlobalsAre gs mb w) :
    ∃ μ : Mu, HR μ (heapG gs) w ∧ GR gs.length μ (heapG gs) ∧ ∀ b, (∃ m, μ b = some m) ↔ b < gs.length := by
  obtain ⟨e1, e2⟩ := heapG_spec hl
  let μ : Mu := fun b => if b < gs.length then some (mb b) else none
  have hμ : ∀ b m, μ b = some m → b < gs.length ∧ mb b = m := fun b m hb => by
    have hb : (if b < gs.length then some (mb b) else none) = some m := hb
    split at hb
    · rename_i hlt; exact ⟨hlt, Option.some.inj hb⟩
    · cases hb
  have hgs : ∀ b, b < gs.length → gs[b]? = some (gs.getD b bDead) := fun b hb => by simp [List.getD, hb]
  have hget' : ∀ b, b < gs.length → hget (heapG gs) b = gs.getD b bDead := fun b hb => by rw [e2 b (by omega), hgs b hb]; rfl
  have hflat : ∀ b, b < gs.length → flatB (gs.getD b bDead) = true := fun b hb => by
    have : gs.getD b bDead = gs[b] := by simp [List.getD, hb]
    rw [this]
    exact List.all_eq_true.1 hf _ (List.getElem_mem hb)
  refine ⟨μ, ⟨fun b m hb => ?_, fun b m hb hlv => ?_, fun b b' m m' h1 h2 l1 l2 e => ?_, by omega, fun b h1 h2 => ?_⟩, fun g hg' => ?_, fun b => ⟨fun ⟨m, hm⟩ => (hμ b m hm).1, fun hb => ⟨mb b, if_pos hb⟩⟩⟩
  · obtain ⟨k1, rfl⟩ := hμ b m hb
    obtain ⟨q1, q2, o, q3, q4⟩ := hg b _ (hgs b k1)
    have := get_lt q3
    exact ⟨by omega, by omega⟩
  · obtain ⟨k1, rfl⟩ := hμ b m hb
    obtain ⟨q1, q2, o, q3, q4⟩ := hg b _ (hgs b k1)
    rw [hget' b k1]
    exact ⟨o, by rw [q1]; exact q3, q4.flat (hflat b k1)⟩
  · obtain ⟨k1, rfl⟩ := hμ b m h1
    obtain ⟨k2, rfl⟩ := hμ b' m' h2
    have q1 := (hg b _ (hgs b k1)).1
    have q2 := (hg b' _ (hgs b' k2)).1
    omega
  · rw [e2 b h2, List.getElem?_eq_none (by omega)]; rfl
  · obtain ⟨q1, q2, o, q3, q4⟩ := hg g _ (hgs g hg')
    refine ⟨⟨mb g, if_pos hg', q1, q2⟩, ?_, ?_⟩
    · rw [hget' g hg']; exact q4.live
    · rw [hget' g hg']
      have := hflat g hg'
      unfold flatB at this
      rw [bA_true, bA_true, ble_t, ble_t] at this
      omega
/-- a call without arguments that returns true -/
theorem closed_true {gs : List AB} {os : List Orc} {mk n f : Nat} (hE : OrcOK P gs os) (hP : ProgOK P gs.length) (hf : gs.all flatB = true) (hl : gs.length ≤ 65535)
    (h : callN P gs.length ⟨mk, gs, os⟩ (cFn P gs.length) n (Nat.succ f) [] (heapG gs) kTrue kNo = .done) {mb : Nat → MB} (hg : GlobalsAre gs mb w) :
    Calls P f #[] w fun e w' => e = .returned (.bool true) ∧ Like w w' ∧ ∀ c, c < w.heap.size → w'.heap[c]? = w.heap[c]? := by
  obtain ⟨μ, hHR, hGR, hμ⟩ := globals_rel hf hl hg
  obtain ⟨_, h1⟩ := (callN_ok (E := ⟨mk, gs, os⟩) hP (draw_ok hP) hE n).fn f [] (heapG gs) kTrue kNo μ w [] h hHR hGR .nil
  have h2 : CallsIn Fence.wide 0 P f #[] w (RetOK gs.length μ (heapG gs) w kTrue kNo) := h1
  refine callsIn_wide.1 (h2.mono fun e w' hr => ?_)
  cases e with
  | returned v =>
    obtain ⟨μ', H', u, _, k2, k3, k4⟩ := hr
    unfold kTrue at k4
    rw [tA_done] at k4
    exact ⟨by rw [k3.inv_t k4.1], k2.like, k2.same (fun b m hb => (hμ b).1 ⟨m, hb⟩) hGR⟩
  | panicked chain =>
    obtain ⟨μ', H', u, x, _, _, _, _, k4⟩ := hr
    cases k4
  | outgrown => exact hr.elim
end
end Go.Ev

/-! Proofs, part 59: a long function, run in parts. -/
namespace Go.Ev
set_option linter.unusedVariables false
set_option linter.unusedSimpArgs false
section
variable {X : Cx} {μ μ' μ0 : Mu} {w w' w0 : World} {H H' H0 : Heap} {P : Program} {ro : Nat} {τ τ' : QT X.d} {a : Act} {base : Nat} {gs : List AB} {S : Snap}
theorem entEq_eq : ∀ xs ys : List Ent, entEq xs ys = true → xs = ys
  | [], [], _ => rfl
  | x :: xs, y :: ys, h => by
    unfold entEq at h
    rw [bA_true, bA_true, bA_true, beq_t] at h
    obtain ⟨k, v, n⟩ := x
    obtain ⟨k', v', n'⟩ := y
    simp only at h
    rw [avEq_eq _ _ h.1, avEq_eq _ _ h.2.1, h.2.2.1, entEq_eq xs ys h.2.2.2]
  | [], _ :: _, h => by simp [entEq] at h
  | _ :: _, [], h => by simp [entEq] at h
theorem axEq_eq {x y : AX} (h : axEq x y = true) : x = y := by
  cases x with
  | map es c =>
    cases y with
    | map es' c' =>
      unfold axEq at h
      rw [bA_true, beq_t] at h
      rw [h.1, entEq_eq _ _ h.2]
    | _ => cases h
  | _ => cases h
theorem blkEq_BR {x y : AB} {m : MB} {o : Obj} (he : blkEq x y = true) (h : BR μ x m o) : BR μ y m o := by
  unfold blkEq at he
  rw [cT_eq] at he
  split at he
  · rename_i h2
    rw [ble_t] at h2
    rw [bA_true, ble_t] at he
    obtain ⟨h1, he⟩ := he
    obtain ⟨t, n, s, l, ee, ax⟩ := x
    obtain ⟨t', n', s', l', ee', ax'⟩ := y
    unfold abEq at he
    simp only [bA_true, beq_t] at he
    obtain ⟨rfl, rfl, rfl, he1, he2⟩ := he
    obtain rfl := avEqs_eq _ _ he1
    obtain rfl := htEq_eq _ _ he2
    cases h with
    | row ht hr => exact .row ht hr
    | arr ht ha => exact .arr ht ha
    | x ht => simp only at ht h1 h2; omega
  · rw [bA_true, bA_true, beq_t, beq_t] at he
    obtain ⟨h1, h2, h3⟩ := he
    have := axEq_eq h3
    cases h with
    | row ht hr => omega
    | arr ht ha => omega
    | x ht hq hx => exact .x h2 hq (this ▸ hx)
theorem blkEq_live {x y : AB} (he : blkEq x y = true) : x.t ≠ 0 := by
  unfold blkEq at he
  rw [cT_eq] at he
  split at he
  · rw [bA_true, ble_t] at he
    rw [abEq_t he.2]; omega
  · rw [bA_true, beq_t] at he; omega
/-! ## Temporaries -/
theorem mT_mem {d : Nat} : ∀ {ts : List (Nat × AV)} {τ : QT d}, mT d ts τ = true → ∀ t v, (t, v) ∈ ts → qget d t τ = v
  | [], τ, _, t, v, h => by simp at h
  | (t0, v0) :: ts, τ, hm, t, v, h => by
    unfold mT at hm
    rw [bA_true] at hm
    rcases List.mem_cons.1 h with e | h
    · cases e; exact avEq_eq _ _ hm.1
    · exact mT_mem hm.2 t v h
theorem qget_void : ∀ (d i : Nat), qget d i (qVoid d) = vX
  | 0, _ => rfl
  | d + 1, i => by
    show (mkGt (d + 1) i).f (q8 (α := QT d) (qVoid d)) = vX
    unfold mkGt
    split <;> exact qget_void d _
theorem snT_spec {d nt : Nat} (hd : nt + 2 ≤ 8 ^ d) : ∀ (ts : List (Nat × AV)) (τ : QT d) (k : QT d → Ans), snT d nt ts τ k = .done → ∃ τ', k τ' = .done ∧ ∀ j, j < nt + 2 → qget d j τ' = qget d j τ ∨ (j, qget d j τ') ∈ ts
  | [], τ, k, h => ⟨τ, h, fun _ _ => .inl rfl⟩
  | (t, v) :: ts, τ, k, h => by
    unfold snT at h
    rw [cA_done, ble_t, st_eq] at h
    obtain ⟨ht, h⟩ := h
    obtain ⟨τ', k1, k2⟩ := snT_spec hd ts _ k h
    refine ⟨τ', k1, fun j hj => ?_⟩
    rcases k2 j hj with e | e
    · rw [qget_qset _ _ _ _ _ (by omega) (by omega)] at e
      by_cases ej : j = t
      · rw [if_pos ej] at e
        exact .inr (by rw [e, ej]; simp)
      · rw [if_neg ej] at e
        exact .inl e
    · exact .inr (by simp [e])
/-- less is known of the temporaries -/
theorem FR.less (h : FR X base NoU μ w τ a) (hq : ∀ j, j < X.nt + 2 → qget X.d j τ' = vX ∨ qget X.d j τ' = qget X.d j τ) : FR X base NoU μ w τ' a := by
  have k : ∀ j, j < X.nt + 2 → (qget X.d j τ').t ≠ 99 → qget X.d j τ' = qget X.d j τ := fun j hj hn => by
    rcases hq j hj with e | e
    · rw [e] at hn; exact absurd rfl hn
    · exact e
  refine ⟨h.sz, h.dp, fun t hu hp ho => ?_, fun t hu hn hb ht => ?_, fun t t' hu hu' hn hn' hb hb' ht ht' e => ?_, fun ht => ?_⟩
  · have hl := (isPlain_inv hp).1
    have e := k t (by omega) (fun e => by unfold Ok at ho; omega)
    rw [e] at ho ⊢; exact h.tm t hu hp ho
  · have e := k t (by omega) (by omega)
    rw [e] at ht ⊢; exact h.bx t hu hn hb ht
  · rw [k t (by omega) (by omega)] at ht
    rw [k t' (by omega) (by omega)] at ht'
    exact h.dj t t' hu hu' hn hn' hb hb' ht ht' e
  · have e := k X.nt (by omega) (by omega)
    rw [e] at ht ⊢; exact h.df ht
/-! ## The heap -/
theorem mB_mem : ∀ {bs : List (Nat × AB)} {H : Heap}, mB ro bs H = true → ∀ b ab, (b, ab) ∈ bs → ro ≤ b ∧ b < H.nx ∧ blkEq (hget H b) ab = true
  | [], H, _, b, ab, h => by simp at h
  | (b0, ab0) :: bs, H, hm, b, ab, h => by
    unfold mB at hm
    rw [bA_true, bA_true, bA_true, ble_t, ble_t] at hm
    rcases List.mem_cons.1 h with e | h
    · cases e; exact ⟨hm.1.1, hm.1.2, hm.2.1⟩
    · exact mB_mem hm.2.2 b ab h
theorem snH_spec : ∀ (bs : List (Nat × AB)) (H : Heap), (∀ b ab, (b, ab) ∈ bs → b < 65536) → (snH bs H).nx = H.nx ∧ ∀ b, b < 65536 → hget (snH bs H) b = hget H b ∨ (b, hget (snH bs H) b) ∈ bs
  | [], H, _ => ⟨rfl, fun _ _ => .inl rfl⟩
  | (b0, ab0) :: bs, H, hl => by
    obtain ⟨h1, h2⟩ := snH_spec bs (hset H b0 ab0) fun b ab h => hl b ab (by simp [h])
    refine ⟨h1, fun b hb => ?_⟩
    rcases h2 b hb with e | e
    · have e' : hget (snH ((b0, ab0) :: bs) H) b = hget (hset H b0 ab0) b := e
      rw [hget_hset H b0 b ab0 (hl b0 ab0 (by simp)) hb] at e'
      by_cases eb : b = b0
      · rw [if_pos eb] at e'
        exact .inr (by rw [e', eb]; simp)
      · rw [if_neg eb] at e'
        exact .inl e'
    · exact .inr (by simp; exact .inr e)
/-- all the globals are known -/
def AllG (n : Nat) (μ : Mu) : Prop := ∀ b, (∃ m, μ b = some m) ↔ b < n
theorem snap_ok (hl : gs.length ≤ 65535) (hro : X.ro = gs.length) (hA : AllG gs.length μ0) (hG0 : GR gs.length μ0 (heapG gs)) (h : RelE X none [] NoU μ0 (heapG gs) w0 μ H w τ a) (hm : matchS gs.length X.d S τ H = true)
    (hq : ∀ j, j < X.nt + 2 → qget X.d j τ' = vX ∨ (j, qget X.d j τ') ∈ S.ts) : RelE X none [] NoU μ0 (heapG gs) w0 μ (snapH gs S) w τ' a := by
  unfold matchS at hm
  rw [bA_true, bA_true, bA_true, ble_t, ble_t] at hm
  obtain ⟨⟨h1, h2⟩, h3, h4⟩ := hm
  obtain ⟨e1, e2⟩ := heapG_spec hl
  have hH := h.R.hH
  have hbs := fun b ab hb => mB_mem h4 b ab hb
  obtain ⟨s1, s2⟩ := snH_spec S.bs ⟨S.nx, (heapG gs).t⟩ fun b ab hb => by have := hbs b ab hb; have := hH.nx; omega
  have g0 : ∀ b, hget (⟨S.nx, (heapG gs).t⟩ : Heap) b = hget (heapG gs) b := fun b => rfl
  have s1' : (snapH gs S).nx = S.nx := s1
  have hn : gs.length ≤ S.nx := by have := h.E.nx; omega
  have get : ∀ b, b < 65536 → (b < gs.length ∧ hget (snapH gs S) b = hget H b) ∨ (gs.length ≤ b ∧ b < H.nx ∧ blkEq (hget H b) (hget (snapH gs S) b) = true) ∨ (gs.length ≤ b ∧ (hget (snapH gs S) b).t = 0) := fun b hb => by
    rcases s2 b hb with e | e
    · have e : hget (snapH gs S) b = hget (heapG gs) b := e
      by_cases hlt : b < gs.length
      · left
        refine ⟨hlt, ?_⟩
        obtain ⟨m, hm⟩ := (hA b).2 hlt
        rw [e, (h.E.ro b m (by rw [hro]; exact hlt) hm (hG0 b hlt).2.1).1]
      · right; right
        refine ⟨by omega, ?_⟩
        rw [e, e2 b hb, List.getElem?_eq_none (by omega)]; rfl
    · obtain ⟨k1, k2, k3⟩ := hbs b _ e
      exact .inr (.inl ⟨k1, k2, k3⟩)
  have live : ∀ b m, μ b = some m → (hget (snapH gs S) b).t ≠ 0 → (hget H b).t ≠ 0 := fun b m hb hlv => by
    rcases get b (hH.lt hb) with ⟨_, e⟩ | ⟨_, _, e⟩ | ⟨_, e⟩
    · rw [← e]; exact hlv
    · exact blkEq_live e
    · exact absurd e hlv
  have hHR : HR μ (snapH gs S) w := by
    refine ⟨fun b m hb => ⟨by have := (hH.dom b m hb).1; omega, (hH.dom b m hb).2⟩, fun b m hb hlv => ?_, fun b b' m m' q1 q2 l1 l2 e => hH.inj b b' m m' q1 q2 (live b m q1 l1) (live b' m' q2 l2) e, by omega, fun b q1 q2 => ?_⟩
    · obtain ⟨o, o1, o2⟩ := hH.blk b m hb (live b m hb hlv)
      refine ⟨o, o1, ?_⟩
      rcases get b (hH.lt hb) with ⟨_, e⟩ | ⟨_, _, e⟩ | ⟨_, e⟩
      · rw [e]; exact o2
      · exact blkEq_BR e o2
      · exact absurd e hlv
    · rcases get b q2 with ⟨e, _⟩ | ⟨_, e, _⟩ | ⟨_, e⟩
      · omega
      · omega
      · exact e
  have hts := fun t v => mT_mem h3 t v
  refine ⟨⟨h.R.hF.less fun j hj => ?_, (fun t ad _ _ hf _ _ _ => by cases hf), (fun ad had => by simp at had), ?_, hHR, h.R.hb⟩, ?_, fun hh => by cases hh⟩
  · rcases hq j hj with e | e
    · exact .inl e
    · exact .inr (hts j _ e).symm
  · rw [hro]
    intro g hg
    obtain ⟨k1, k2, k3⟩ := (hro ▸ h.R.hG) g hg
    have : hget (snapH gs S) g = hget H g := by
      rcases get g (by omega) with ⟨_, e⟩ | ⟨e, _⟩ | ⟨e, _⟩
      · exact e
      · omega
      · omega
    rw [this]
    exact ⟨k1, k2, k3⟩
  · refine ⟨h.E.mu, h.E.nw, by omega, fun b q1 q2 => ?_, h.E.sz, h.E.cb, fun b m q1 q2 q3 => ?_, h.E.like⟩
    · exfalso
      obtain ⟨m, hm⟩ := (hA b).2 (by omega)
      rw [hm] at q2; cases q2
    · obtain ⟨k1, k2⟩ := h.E.ro b m q1 q2 q3
      rw [hro] at q1
      have : hget (snapH gs S) b = hget H b := by
        rcases get b (by omega) with ⟨_, e⟩ | ⟨e, _⟩ | ⟨e, _⟩
        · exact e
        · omega
        · omega
      rw [this]
      exact ⟨k1, k2⟩
end
end Go.Ev

/-! Proofs, part 60: a long function, run in parts (2). -/
namespace Go.Ev
set_option linter.unusedVariables false
set_option linter.unusedSimpArgs false
section
variable {μ μ' μ0 : Mu} {w w' w0 : World} {H H' H0 : Heap} {P : Program} {a : Act} {gs : List AB}
/-- the first k parts, and what comes next -/
theorem headRun_ok {X : Cx} {fn : Nat} (hcode : ∀ c : Code, CodeOK X none c (comp X fn c).run) {call : CallT} (hK : CallOK X.P X.ro call) {kn : QT X.d → Heap → Ans} {kx : Ex → QT X.d → Heap → Ans} {Q : Exit → Act → World → Prop} (hkx : KxOK X none μ0 H0 w0 kx Q) :
    ∀ (k : Nat) (c : Code) (μ : Mu) (H : Heap) (w : World) (τ : QT X.d) (a : Act), (∀ μ H w τ a, RelE X none [] NoU μ0 H0 w0 μ H w τ a → kn τ H = .done → (dropC k c).wpIn (Fr none) 0 X.P Q a w) →
      RelE X none [] NoU μ0 H0 w0 μ H w τ a → headRun X fn k c call τ H kn kx = .done → c.wpIn (Fr none) 0 X.P Q a w := by
  intro k
  induction k with
  | zero => intro c μ H w τ a hkn h hok; exact hkn _ _ _ _ _ h hok
  | succ k ih =>
    intro c μ H w τ a hkn h hok
    cases c with
    | seq x y =>
      have hok : (comp X fn x).run call τ H (kSeq (headRun X fn k y) call kn kx) kx = .done := hok
      refine wpIn_seq ?_
      refine hcode x call _ kx _ μ0 H0 w0 μ H w τ a hK h hok ?_ (kx_then hkx)
      intro μ' H' w' τ' a' h' hok'
      exact ih y μ' H' w' τ' a' hkn h' hok'
    | _ => cases hok
/-- the code is safe in whatever state that matches S -/
def SnapOK (X : Cx) (gs : List AB) (kn : QT X.d → Heap → Ans) (kx : Ex → QT X.d → Heap → Ans) (c : Code) (S : Snap) : Prop :=
  ∀ (Q : Exit → Act → World → Prop) μ0 w0 μ H w τ a, AllG gs.length μ0 → GR gs.length μ0 (heapG gs) → RelE X none [] NoU μ0 (heapG gs) w0 μ H w τ a → matchS gs.length X.d S τ H = true →
    (∀ μ H w τ a, RelE X none [] NoU μ0 (heapG gs) w0 μ H w τ a → kn τ H = .done → Q .normal a w) → KxOK X none μ0 (heapG gs) w0 kx Q → c.wpIn (Fr none) 0 X.P Q a w
theorem kSnap_done {X : Cx} {ro : Nat} {S : Snap} {τ : QT X.d} {H : Heap} (h : kSnap ro S τ H = .done) : matchS ro X.d S τ H = true := by
  unfold kSnap at h
  rw [cA_done] at h
  exact h.1
/-- what is known of a function -/
structure FnIs (P : Program) (f : Nat) (fn : Func) (c : Code) : Prop where
  hfn : P.funcs[f]? = some fn
  body : fn.body = some c
  nt : fn.ntmps ≤ 500
theorem cFnX_done {ro f : Nat} {k : (X : Cx) → Func → Code → Ans} (h : cFnX P ro f k = .done) : ∃ fn c, FnIs P f fn c ∧ k (cxOf P ro fn c) fn c = .done := by
  unfold cFnX at h
  split at h
  · cases h
  · rename_i fn hfn
    split at h
    · cases h
    · rename_i c hc
      rw [cT_eq] at h
      split at h
      · rename_i hn
        rw [ble_t] at hn
        exact ⟨fn, c, ⟨hfn, hc, hn⟩, h⟩
      · cases h
theorem FnIs.same {f : Nat} {fn fn' : Func} {c c' : Code} (h : FnIs P f fn c) (h' : FnIs P f fn' c') : fn = fn' ∧ c = c' := by
  have e : fn = fn' := Option.some.inj (h.hfn.symm.trans h'.hfn)
  subst e
  exact ⟨rfl, Option.some.inj (h.body.symm.trans h'.body)⟩
section
variable {os : List Orc} {mk n f : Nat} {kret : KR}
/-- the evaluator's calls -/
noncomputable abbrev evC (P : Program) (mk : Nat) (gs : List AB) (os : List Orc) (n : Nat) : CallT := callN P gs.length ⟨mk, gs, os⟩ (cFn P gs.length) n
noncomputable abbrev evX (P : Program) (gs : List AB) (fn : Func) (c : Code) : Cx := cxOf P gs.length fn c
noncomputable abbrev evN (P : Program) (mk : Nat) (gs : List AB) (os : List Orc) (n f : Nat) (fn : Func) (c : Code) (kret : KR) : QT (evX P gs fn c).d → Heap → Ans := fnRet (cFn P gs.length) (evC P mk gs os n) (cFn2 (evX P gs fn c) f fn c) kret kNo
noncomputable abbrev evE (P : Program) (mk : Nat) (gs : List AB) (os : List Orc) (n f : Nat) (fn : Func) (c : Code) (kret : KR) : Ex → QT (evX P gs fn c).d → Heap → Ans := fnEx (cFn P gs.length) (evC P mk gs os n) (cFn2 (evX P gs fn c) f fn c) kret kNo
/-- from part k of function f on it is safe in whatever state that matches S -/
def PartOK (P : Program) (mk : Nat) (gs : List AB) (os : List Orc) (n f : Nat) (kret : KR) (k : Nat) (S : Snap) : Prop :=
  ∀ fn c, FnIs P f fn c → SnapOK (evX P gs fn c) gs (evN P mk gs os n f fn c kret) (evE P mk gs os n f fn c kret) (dropC k c) S
variable (hE : OrcOK P gs os) (hP : ProgOK P gs.length) (hl : gs.length ≤ 65535)
include hE hP hl
theorem part_last {k : Nat} {S : Snap} (h : runLast P ⟨mk, gs, os⟩ n f k S kret = .done) : PartOK P mk gs os n f kret k S := by
  intro fn c hf Q μ0 w0 μ H w τ a hA hG0 hr hm hkn hkx
  obtain ⟨fn', c', hf', h1⟩ := cFnX_done h
  obtain ⟨rfl, rfl⟩ := hf.same hf'
  have hd : (evX P gs fn c).nt + 2 ≤ 8 ^ (evX P gs fn c).d := by
    show fn.ntmps + 2 ≤ 8 ^ depthOf (Nat.add fn.ntmps 2)
    exact depth_ok (by have := hf.nt; omega)
  obtain ⟨τ', k1, k2⟩ := snT_spec hd _ _ _ h1
  have hs := snap_ok (X := evX P gs fn c) hl rfl hA hG0 hr hm (τ' := τ') fun j hj => by rw [← qget_void (evX P gs fn c).d j]; exact (k2 j hj).imp_left fun e => e
  exact code_ok (draw_ok hP) (evX P gs fn c) none f (dropC k c) rfl rfl (evC P mk gs os n) _ _ Q μ0 _ w0 μ _ w τ' a (callN_ok (E := ⟨mk, gs, os⟩) hP (draw_ok hP) hE n) hs k1 hkn hkx
theorem part_mid {k m k' : Nat} {S S' : Snap} (hk : ∀ fn c, FnIs P f fn c → dropC m (dropC k c) = dropC k' c) (hn : PartOK P mk gs os n f kret k' S') (h : runMid P ⟨mk, gs, os⟩ n f k m S S' kret = .done) : PartOK P mk gs os n f kret k S := by
  intro fn c hf Q μ0 w0 μ H w τ a hA hG0 hr hm hkn hkx
  obtain ⟨fn', c', hf', h1⟩ := cFnX_done h
  obtain ⟨rfl, rfl⟩ := hf.same hf'
  have hd : (evX P gs fn c).nt + 2 ≤ 8 ^ (evX P gs fn c).d := by
    show fn.ntmps + 2 ≤ 8 ^ depthOf (Nat.add fn.ntmps 2)
    exact depth_ok (by have := hf.nt; omega)
  obtain ⟨τ', k1, k2⟩ := snT_spec hd _ _ _ h1
  have hs := snap_ok (X := evX P gs fn c) hl rfl hA hG0 hr hm (τ' := τ') fun j hj => by rw [← qget_void (evX P gs fn c).d j]; exact (k2 j hj).imp_left fun e => e
  refine headRun_ok (X := evX P gs fn c) (fn := f) (fun c' => code_ok (draw_ok hP) (evX P gs fn c) none f c' rfl rfl) (callN_ok (E := ⟨mk, gs, os⟩) hP (draw_ok hP) hE n) hkx m (dropC k c) μ _ w τ' a (fun μ' H' w' τ2 a' h' ho => ?_) hs k1
  rw [hk fn c hf]
  exact hn fn c hf Q μ0 w0 μ' H' w' τ2 a' hA hG0 h' (kSnap_done ho) hkn hkx
/-- the whole of it -/
theorem part_first (hf : gs.all flatB = true) {k : Nat} {S : Snap} (hn : PartOK P mk gs os n f kTrue k S) (h : runFirst P ⟨mk, gs, os⟩ n f k S kTrue = .done) {mb : Nat → MB} (hg : GlobalsAre gs mb w) :
    Calls P f #[] w fun e w' => e = .returned (.bool true) ∧ Like w w' ∧ ∀ c, c < w.heap.size → w'.heap[c]? = w.heap[c]? := by
  obtain ⟨μ, hH, hG, hμ⟩ := globals_rel hf hl hg
  obtain ⟨fn, c, hfi, h1⟩ := cFnX_done h
  have hK := callN_ok (E := ⟨mk, gs, os⟩) hP (draw_ok hP) hE n
  have hcode := fun (X : Cx) (rd : Option Nat) (fn : Nat) (c : Code) (h1 : X.P = P) (h2 : X.ro = gs.length) => code_ok (draw_ok hP) X rd fn c h1 h2
  have hd : (evX P gs fn c).nt + 2 ≤ 8 ^ (evX P gs fn c).d := by
    show fn.ntmps + 2 ≤ 8 ^ depthOf (Nat.add fn.ntmps 2)
    exact depth_ok (by have := hfi.nt; omega)
  have h1' : argsK (evX P gs fn c).d (evX P gs fn c).nt (evX P gs fn c).pb [] 0 (qFill (evX P gs fn c).d) (fun τ => headRun (evX P gs fn c) f k c (evC P mk gs os n) τ (heapG gs) (kSnap gs.length S) (evE P mk gs os n f fn c kTrue)) = .done := h1
  obtain ⟨τ, k1, k2, _, _⟩ := enter_ok (X := evX P gs fn c) hd hH hG .nil h1'
  have h2 : CallsIn (Fr none) 0 P f ⟨[]⟩ w (RetOK gs.length μ (heapG gs) w kTrue kNo) := by
    refine fnBody_ok hP (defs_ok hP hcode hK) hfi.hfn hfi.body hfi.nt k2 fun Q hkn hkx => ?_
    refine headRun_ok (X := evX P gs fn c) (fn := f) (fun c' => hcode (evX P gs fn c) none f c' rfl rfl) hK hkx k c μ _ w τ _ (fun μ' H' w' τ2 a' h' ho => ?_) k2 k1
    exact hn fn c hfi Q μ w μ' H' w' τ2 a' hμ hG h' (kSnap_done ho) hkn hkx
  have h3 : CallsIn Fence.wide 0 P f #[] w (RetOK gs.length μ (heapG gs) w kTrue kNo) := h2
  refine callsIn_wide.1 (h3.mono fun e w' hr => ?_)
  cases e with
  | returned v =>
    obtain ⟨μ', H', u, _, q2, q3, q4⟩ := hr
    unfold kTrue at q4
    rw [tA_done] at q4
    exact ⟨by rw [q3.inv_t q4.1], q2.like, q2.same (fun b m hb => (hμ b).1 ⟨m, hb⟩) hG⟩
  | panicked chain =>
    obtain ⟨μ', H', u, x, _, _, _, _, q4⟩ := hr
    cases q4
  | outgrown => exact hr.elim
end
end
end Go.Ev
namespace Go.Ev
theorem dropC_dropC : ∀ (k m : Nat) (c : Code), dropC m (dropC k c) = dropC (k + m) c := by
  intro k
  induction k with
  | zero => intro m c; rw [Nat.zero_add]; rfl
  | succ k ih =>
    intro m c
    rw [show k + 1 + m = (k + m) + 1 by omega]
    cases c with
    | seq a b => exact ih m b
    | _ => cases m <;> rfl
end Go.Ev
