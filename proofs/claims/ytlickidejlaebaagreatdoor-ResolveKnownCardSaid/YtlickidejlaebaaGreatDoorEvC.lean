/- The evaluator of the text EvA: code, calls, deferred functions and ranges over functions do what the model says. -/
import Derived.Test.YtlickidejlaebaaGreatDoorEvB
import Derived.LoopNIn
import Derived.OrdersIn
import Derived.RangeFuncIn
import Derived.RangeFuncLeaves
import Derived.RecoverIn
set_option linter.constructorNameAsVariable false
set_option linter.unusedVariables false
set_option linter.unusedSimpArgs false
set_option linter.unusedSectionVars false
/-! Proofs, part 15: frames. -/
namespace Go.Ev
set_option linter.unusedVariables false
set_option linter.unusedSimpArgs false
variable {μ : Mu} {P : Program} {w : World} {H : Heap} {ro : Nat}

/-! ## Boxes of a temporary's own -/
structure BoxR (base : Nat) (μ : Mu) (w : World) (v : AV) (c : Nat) : Prop where
  ge : base ≤ c
  ex : ∃ cs e, w.heap[c]? = some (.cells cs e (0, 0)) ∧ VRs μ v.l cs.toList ∧ v.a = v.l.length ∧ CellsOk cs (0, 0)
  un : ∀ b m, μ b = some m → m.c ≠ c
theorem BoxR.lt {base : Nat} {v : AV} {c : Nat} (h : BoxR base μ w v c) : c < w.heap.size := by
  obtain ⟨cs, e, h1, _⟩ := h.ex
  exact get_lt h1
theorem BoxR.ext {base : Nat} {v : AV} {c : Nat} {μ' : Mu} {H' : Heap} {w' : World} (h : BoxR base μ w v c) (he : Ext ro μ H w μ' H' w') : BoxR base μ' w' v c := by
  have hc := h.lt
  obtain ⟨cs, e, h1, h2, h3, h4⟩ := h.ex
  exact ⟨h.ge, ⟨cs, e, by rw [he.cb c hc h.un]; exact h1, h2.mono he.mu, h3, h4⟩, he.free hc h.un⟩
/-- a call that waits -/
inductive DR (μ : Mu) : List AV → List Deferred → Prop
  | nil : DR μ [] []
  | fn {f : Nat} {l m : List AV} {xs ys : List Value} {ds : List AV} {es : List Deferred} (hl : VRs μ l xs) (hm : VRs μ m ys) (h : DR μ ds es) :
      DR μ (vFn f l m :: ds) ({ target := .fn (.func f) ⟨ys⟩, args := ⟨xs⟩ } :: es)
  | mark {b : Nat} {m : MB} {ds : List AV} {es : List Deferred} {args : Array Value} (hb : μ b = some m) (h : DR μ ds es) : DR μ (vPtr b 0 :: ds) ({ target := .collected m.c, args := args } :: es)
theorem DR.mono {μ' : Mu} {ds : List AV} {es : List Deferred} (h : DR μ ds es) (hm : μ.le μ') : DR μ' ds es := by
  induction h with
  | nil => exact .nil
  | fn h1 h2 _ ih => exact .fn (h1.mono hm) (h2.mono hm) ih
  | mark hb _ ih => exact .mark (hm _ _ hb) ih

/-! ## Frames -/
/-- the temporaries: U those of which nothing is said -/
structure FR (X : Cx) (base : Nat) (U : Nat → Prop) (μ : Mu) (w : World) (τ : QT X.d) (a : Act) : Prop where
  sz : a.tmps.size = X.nt
  dp : X.nt + 2 ≤ 8 ^ X.d
  tm : ∀ t, ¬ U t → isPlain X t = true → Ok (qget X.d t τ) → VR μ (qget X.d t τ) (a.tmps.getD t undef)
  bx : ∀ t, ¬ U t → t < X.nt → X.pb.testBit t = true → (qget X.d t τ).t = 21 → ∃ c, a.tmps.getD t undef = .pointer (some ⟨c, 0, none⟩) ∧ BoxR base μ w (qget X.d t τ) c
  dj : ∀ t t', ¬ U t → ¬ U t' → t < X.nt → t' < X.nt → X.pb.testBit t = true → X.pb.testBit t' = true → (qget X.d t τ).t = 21 → (qget X.d t' τ).t = 21 → a.tmps.getD t undef = a.tmps.getD t' undef → t = t'
  df : (qget X.d X.nt τ).t = 22 → DR μ (qget X.d X.nt τ).l a.defers
/-- the derived addresses -/
def AR (X : Cx) (U : Nat → Prop) (env : List Ad) (τ : QT X.d) (a : Act) : Prop :=
  ∀ t ad, ¬ U t → ¬ U ad.box → findAd t env = some ad → t < X.nt → X.ad.testBit t = true → (qget X.d t τ).t = 1 →
    ∃ c, a.tmps.getD ad.box undef = .pointer (some ⟨c, 0, none⟩) ∧ a.tmps.getD t undef = .pointer (some ⟨c, ad.off, none⟩)
/-- the globals -/
def GR (ro : Nat) (μ : Mu) (H : Heap) : Prop := ∀ g, g < ro → (∃ m, μ g = some m ∧ m.c = g ∧ m.q = 0) ∧ (hget H g).t ≠ 0 ∧ (hget H g).t ≠ 3
theorem GR.ext {μ' : Mu} {H' : Heap} {w' : World} (h : GR ro μ H) (he : Ext ro μ H w μ' H' w') : GR ro μ' H' := fun g hg => by
  obtain ⟨⟨m, h1, h2, h3⟩, h4, h5⟩ := h g hg
  rw [(he.ro g m hg h1 h4).1]
  exact ⟨⟨m, he.mu _ _ h1, h2, h3⟩, h4, h5⟩
theorem GR.not3 (h : GR ro μ H) : ∀ b, b < ro → (hget H b).t ≠ 3 := fun b hb => (h b hb).2.2
theorem isPlain_inv {X : Cx} {t : Nat} (h : isPlain X t = true) : t < X.nt ∧ X.pb.testBit t = false ∧ X.ad.testBit t = false := by
  unfold isPlain at h
  rw [bA_true, bA_true, ble_t] at h
  exact ⟨h.1, by simpa using h.2.1, by simpa using h.2.2⟩
section
variable {X : Cx} {base : Nat} {U : Nat → Prop} {τ : QT X.d} {a : Act}
theorem FR.ext {μ' : Mu} {H' : Heap} {w' : World} (h : FR X base U μ w τ a) (he : Ext ro μ H w μ' H' w') : FR X base U μ' w' τ a :=
  ⟨h.sz, h.dp, fun t hu hp ho => (h.tm t hu hp ho).mono he.mu, fun t hu hn hp ht => let ⟨c, h1, h2⟩ := h.bx t hu hn hp ht; ⟨c, h1, h2.ext he⟩, h.dj, fun ht => (h.df ht).mono he.mu⟩
theorem getD_set (ts : Array Value) (t t' : Nat) (x : Value) (ht : t < ts.size) : (ts.setIfInBounds t x).getD t' undef = if t' = t then x else ts.getD t' undef := by
  simp only [Array.getD_eq_getD_getElem?, Array.getElem?_setIfInBounds]
  by_cases h : t = t'
  · subst h; simp [ht]
  · simp [h, Ne.symm h]
theorem put_getD (a : Act) (t t' : Nat) (x : Value) (ht : t < a.tmps.size) : (a.put (some t) x).tmps.getD t' undef = if t' = t then x else a.tmps.getD t' undef := getD_set _ _ _ _ ht
theorem FR.pow (h : FR X base U μ w τ a) {t : Nat} (ht : t < X.nt + 2) : t < 8 ^ X.d := Nat.lt_of_lt_of_le ht h.dp
/-- a result is written -/
theorem FR.put (h : FR X base U μ w τ a) {t : Nat} (hp : isPlain X t = true) {v : AV} {x : Value} (hv : VR μ v x) : FR X base U μ w (qset X.d t τ v) (a.put (some t) x) := by
  obtain ⟨h1, h2, h3⟩ := isPlain_inv hp
  have g : ∀ t', t' < X.nt + 2 → qget X.d t' (qset X.d t τ v) = if t' = t then v else qget X.d t' τ := fun t' ht' => qget_qset _ _ _ _ _ (h.pow (by omega)) (h.pow ht')
  have p : ∀ t', (a.put (some t) x).tmps.getD t' undef = if t' = t then x else a.tmps.getD t' undef := fun t' => put_getD a t t' x (by rw [h.sz]; exact h1)
  have nb : ∀ t', X.pb.testBit t' = true → t' ≠ t := fun t' hb e => by rw [e, h2] at hb; cases hb
  refine ⟨?_, h.dp, fun t' hu hp' ho => ?_, fun t' hu hn hb ht => ?_, fun t' t'' hu hu' hn hn' hb hb' ht ht' e => ?_, fun ht => ?_⟩
  · simp [Act.put, h.sz]
  · have := isPlain_inv hp'
    rw [g t' (by omega), p t'] at *
    by_cases e : t' = t
    · simp only [e, if_true]; exact hv
    · simp only [e, if_false] at ho ⊢; exact h.tm t' hu hp' ho
  · rw [g t' (by omega), if_neg (nb t' hb)] at ht ⊢
    rw [p t', if_neg (nb t' hb)]
    exact h.bx t' hu hn hb ht
  · rw [g _ (by omega), if_neg (nb _ hb)] at ht
    rw [g _ (by omega), if_neg (nb _ hb')] at ht'
    rw [p, p, if_neg (nb _ hb), if_neg (nb _ hb')] at e
    exact h.dj t' t'' hu hu' hn hn' hb hb' ht ht' e
  · rw [g X.nt (by omega), if_neg (by omega)] at ht ⊢
    exact h.df ht
/-- .. of an operation that its guard leaves out, or of an address -/
theorem FR.skip (h : FR X base U μ w τ a) {t : Nat} (hn : t < X.nt) {v : AV} {x : Value} (hv : isPlain X t = true → Ok v → VR μ v x) (h21 : v.t ≠ 21 ∨ X.pb.testBit t = false) : FR X base U μ w (qset X.d t τ v) (a.put (some t) x) := by
  have g : ∀ t', t' < X.nt + 2 → qget X.d t' (qset X.d t τ v) = if t' = t then v else qget X.d t' τ := fun t' ht' => qget_qset _ _ _ _ _ (h.pow (by omega)) (h.pow ht')
  have p : ∀ t', (a.put (some t) x).tmps.getD t' undef = if t' = t then x else a.tmps.getD t' undef := fun t' => put_getD a t t' x (by rw [h.sz]; exact hn)
  have nb : ∀ t', t' < X.nt + 2 → X.pb.testBit t' = true → (qget X.d t' (qset X.d t τ v)).t = 21 → t' ≠ t := fun t' hl hb h1 e => by
    rw [g t' hl, if_pos e] at h1
    rcases h21 with h2 | h2
    · exact h2 h1
    · rw [e, h2] at hb; cases hb
  refine ⟨?_, h.dp, fun t' hu hp' ho => ?_, fun t' hu hn' hb ht => ?_, fun t' t'' hu hu' hn' hn'' hb hb' ht ht' e => ?_, fun ht => ?_⟩
  · simp [Act.put, h.sz]
  · have := isPlain_inv hp'
    rw [g t' (by omega), p t'] at *
    by_cases e : t' = t
    · subst e; simp only [if_true] at ho ⊢; exact hv hp' ho
    · simp only [e, if_false] at ho ⊢; exact h.tm t' hu hp' ho
  · have ne := nb t' (by omega) hb ht
    rw [g t' (by omega), if_neg ne] at ht ⊢
    rw [p t', if_neg ne]
    exact h.bx t' hu hn' hb ht
  · have ne := nb t' (by omega) hb ht
    have ne' := nb t'' (by omega) hb' ht'
    rw [g _ (by omega), if_neg ne] at ht
    rw [g _ (by omega), if_neg ne'] at ht'
    rw [p, p, if_neg ne, if_neg ne'] at e
    exact h.dj t' t'' hu hu' hn' hn'' hb hb' ht ht' e
  · rw [g X.nt (by omega), if_neg (by omega)] at ht ⊢
    exact h.df ht
/-- a box of its own, made or written -/
theorem FR.box (h : FR X base U μ w τ a) {t c : Nat} (hn : t < X.nt) (hb : X.pb.testBit t = true) {v : AV} {w' : World} {a' : Act} (hx : a'.tmps.getD t undef = .pointer (some ⟨c, 0, none⟩)) (hsz : a'.tmps.size = X.nt)
    (hd : a'.defers = a.defers) (ho : ∀ t', t' ≠ t → a'.tmps.getD t' undef = a.tmps.getD t' undef) (hv : BoxR base μ w' v c)
    (hw : ∀ c', c' < w.heap.size → c' ≠ c → w'.heap[c']? = w.heap[c']?) (hnew : ∀ t', ¬ U t' → t' ≠ t → t' < X.nt → X.pb.testBit t' = true → (qget X.d t' τ).t = 21 → a.tmps.getD t' undef ≠ .pointer (some ⟨c, 0, none⟩)) :
    FR X base U μ w' (qset X.d t τ v) a' := by
  have g : ∀ t', t' < X.nt + 2 → qget X.d t' (qset X.d t τ v) = if t' = t then v else qget X.d t' τ := fun t' ht' => qget_qset _ _ _ _ _ (h.pow (by omega)) (h.pow ht')
  refine ⟨hsz, h.dp, fun t' hu hp' hok => ?_, fun t' hu hn' hb' ht => ?_, fun t' t'' hu hu' hn' hn'' hb' hb'' ht ht' e => ?_, fun ht => ?_⟩
  · obtain ⟨q1, q2, q3⟩ := isPlain_inv hp'
    have ne : t' ≠ t := fun e => by rw [e, hb] at q2; cases q2
    rw [g t' (by omega), if_neg ne] at hok ⊢
    rw [ho t' ne]
    exact h.tm t' hu hp' hok
  · by_cases e : t' = t
    · rw [g t' (by omega), if_pos e, e]
      exact ⟨c, hx, hv⟩
    · rw [g t' (by omega), if_neg e] at ht ⊢
      obtain ⟨c', h1, h2⟩ := h.bx t' hu hn' hb' ht
      have hcc : c' ≠ c := fun ec => hnew t' hu e hn' hb' ht (by rw [h1, ec])
      obtain ⟨cs, ee, k1, k2, k3, k4⟩ := h2.ex
      exact ⟨c', by rw [ho t' e]; exact h1, h2.ge, ⟨cs, ee, by rw [hw c' h2.lt hcc]; exact k1, k2, k3, k4⟩, h2.un⟩
  · have key : ∀ t1 t2, ¬ U t2 → t1 = t → t2 ≠ t → t2 < X.nt → X.pb.testBit t2 = true → (qget X.d t2 (qset X.d t τ v)).t = 21 → a'.tmps.getD t1 undef ≠ a'.tmps.getD t2 undef := fun t1 t2 u2 e1 e2 n2 b2 g2 e => by
      rw [g t2 (by omega), if_neg e2] at g2
      rw [e1, hx, ho t2 e2] at e
      exact hnew t2 u2 e2 n2 b2 g2 e.symm
    by_cases e1 : t' = t
    · by_cases e2 : t'' = t
      · rw [e1, e2]
      · exact absurd e (key t' t'' hu' e1 e2 hn'' hb'' ht')
    · by_cases e2 : t'' = t
      · exact absurd e.symm (key t'' t' hu e2 e1 hn' hb' ht)
      · rw [g _ (by omega), if_neg e1] at ht
        rw [g _ (by omega), if_neg e2] at ht'
        rw [ho _ e1, ho _ e2] at e
        exact h.dj t' t'' hu hu' hn' hn'' hb' hb'' ht ht' e
  · rw [g X.nt (by omega), if_neg (by omega)] at ht ⊢
    rw [hd]; exact h.df ht
theorem AR.put {env : List Ad} (h : AR X U env τ a) (hF : FR X base U μ w τ a) {t : Nat} (hn : t < X.nt) {v : AV} {x : Value} (h1 : v.t ≠ 1 ∨ X.ad.testBit t = false) (he : ∀ ad ∈ env, ad.box ≠ t) : AR X U env (qset X.d t τ v) (a.put (some t) x) := by
  intro t' ad hu hub hf hn' hb ht
  have hne : t' ≠ t := fun e => by
    rw [qget_qset _ _ _ _ _ (hF.pow (by omega)) (hF.pow (by omega)), if_pos e] at ht
    rcases h1 with h2 | h2
    · exact h2 ht
    · rw [e, h2] at hb; cases hb
  rw [qget_qset _ _ _ _ _ (hF.pow (by omega)) (hF.pow (by omega)), if_neg hne] at ht
  have hmem : ad ∈ env := by
    clear h he
    induction env with
    | nil => cases hf
    | cons a0 env ih =>
      unfold findAd at hf
      rw [cT_eq] at hf
      split at hf
      · cases hf; simp
      · exact List.mem_cons_of_mem _ (ih hf)
  obtain ⟨c, h2, h3⟩ := h t' ad hu hub hf hn' hb ht
  refine ⟨c, ?_, ?_⟩
  · rw [put_getD _ _ _ _ (by rw [hF.sz]; exact hn), if_neg (he ad hmem)]; exact h2
  · rw [put_getD _ _ _ _ (by rw [hF.sz]; exact hn), if_neg hne]; exact h3
end
end Go.Ev

/-! Proofs, part 16: operands, addresses in boxes. -/
namespace Go.Ev
set_option linter.unusedVariables false
set_option linter.unusedSimpArgs false
section
variable {X : Cx} {base : Nat} {U : Nat → Prop} {μ : Mu} {w : World} {H : Heap} {τ : QT X.d} {a : Act} {env : List Ad}

theorem ok_not {v : AV} (h : ¬ Ok v) : 24 < v.t := Nat.lt_of_not_le h
/-- what an operand stands for -/
theorem cOpd_rel (hF : FR X base U μ w τ a) (hG : GR X.ro μ H) {o : Operand} (hU : ∀ t, o = .tmp t → ¬ U t) (hok : Ok (cOpd X o τ)) : VR μ (cOpd X o τ) (a.eval o) := by
  cases o with
  | tmp t =>
    have e : cOpd X (.tmp t) τ = cT (isPlain X t) (gt X.d t).f noG τ := rfl
    rw [e, cT_eq] at hok ⊢
    split at hok
    · rename_i hp
      rw [if_pos hp] at *
      rw [gt_eq] at hok ⊢
      exact hF.tm t (hU t rfl) hp hok
    · simp [noG] at hok
  | const v => exact ofV_rel v hok
  | global g =>
    have e : cOpd X (.global g) τ = cV (Nat.ble (Nat.succ g) X.ro) (vPtr g 0) vX := rfl
    rw [e, ok_cV, ble_t] at hok
    obtain ⟨⟨m, h1, h2, h3⟩, _, _⟩ := hG g hok.1
    rw [e, show Nat.ble (Nat.succ g) X.ro = true by rw [ble_t]; exact hok.1, cV_true]
    show VR μ (vPtr g 0) (.pointer (some ⟨g, 0, none⟩))
    rw [show (⟨g, 0, none⟩ : Addr) = ⟨m.c, 0, none⟩ by rw [h2]]
    exact vr_ptr h1 (by omega)
  | func f => exact .of_fn .nil .nil
theorem evals_eq {d : Nat} (gs : List (QT d → AV)) (τ : QT d) : evals gs τ = gs.map fun g => g τ := by
  induction gs with
  | nil => rfl
  | cons g gs ih => show g τ :: evals gs τ = _; rw [ih]; rfl
theorem opds_rel (hF : FR X base U μ w τ a) (hG : GR X.ro μ H) : ∀ {os : List Operand}, (∀ o ∈ os, ∀ t, o = .tmp t → ¬ U t) → okL (evals (os.map (cOpd X)) τ) = true → VRs μ (evals (os.map (cOpd X)) τ) (os.map a.eval) := by
  intro os
  induction os with
  | nil => intro _ _; exact .nil
  | cons o os ih =>
    intro hU h
    have h' : bA (Nat.ble (cOpd X o τ).t 24) (okL (evals (os.map (cOpd X)) τ)) = true := h
    rw [bA_true, ble_t] at h'
    exact .cons (cOpd_rel hF hG (hU o (by simp)) h'.1) (ih (fun o ho => hU o (by simp [ho])) h'.2)
/-- the addresses that are known lie in boxes -/
def EnvOk (X : Cx) (env : List Ad) : Prop := ∀ ad ∈ env, ad.box < X.nt ∧ X.pb.testBit ad.box = true
theorem findAd_mem {t : Nat} {ad : Ad} : ∀ {env : List Ad}, findAd t env = some ad → ad ∈ env
  | [], h => by cases h
  | a :: e, h => by
    unfold findAd at h
    rw [cT_eq] at h
    split at h
    · cases h; simp
    · exact List.mem_cons_of_mem _ (findAd_mem h)
theorem findAd_t {t : Nat} {ad : Ad} : ∀ {env : List Ad}, findAd t env = some ad → ad.t = t
  | [], h => by cases h
  | a :: e, h => by
    unfold findAd at h
    rw [cT_eq] at h
    split at h
    · rename_i hb; rw [beq_t] at hb; cases h; exact hb
    · exact findAd_t h
theorem slot_eq (t : Nat) : slot X t τ = qget X.d t τ := rfl
/-- an operand that is an address in a box -/
theorem cAdr_sound (hF : FR X base U μ w τ a) (hA : AR X U env τ a) (hE : EnvOk X env) {o : Operand} {p : PA} (hp : cAdr X env o = some p) (hU : ∀ t, o = .tmp t → ¬ U t) (hUb : ¬ U p.box)
    (hc : (slot X p.chk τ).t = p.tag) (hb : (slot X p.box τ).t = 21) :
    ∃ c, a.eval o = .pointer (some ⟨c, p.off, none⟩) ∧ a.tmps.getD p.box undef = .pointer (some ⟨c, 0, none⟩) ∧ BoxR base μ w (slot X p.box τ) c ∧ p.box < X.nt ∧ X.pb.testBit p.box = true := by
  cases o with
  | tmp t =>
    unfold cAdr at hp
    simp only at hp
    rw [cT_eq] at hp
    split at hp
    · rename_i h1
      rw [bA_true, ble_t] at h1
      cases hp
      obtain ⟨c, h2, h3⟩ := hF.bx t (hU t rfl) h1.2 h1.1 hc
      exact ⟨c, h2, h2, h3, h1.2, h1.1⟩
    · rw [cT_eq] at hp
      split at hp
      · rename_i h1
        rw [bA_true, ble_t] at h1
        split at hp
        · rename_i ad had
          cases hp
          obtain ⟨e1, e2⟩ := hE ad (findAd_mem had)
          obtain ⟨c, h2, h3⟩ := hA t ad (hU t rfl) hUb had h1.2 h1.1 hc
          obtain ⟨c', h4, h5⟩ := hF.bx ad.box hUb e1 e2 hb
          have : c' = c := by
            rw [h2] at h4
            injection h4 with h4; injection h4 with h4; injection h4 with h4 _ _; exact h4.symm
          subst this
          exact ⟨c', h3, h2, h5, e1, e2⟩
        · cases hp
      · cases hp
  | const v => cases hp
  | global g => cases hp
  | func f => cases hp
/-- .. loaded -/
theorem pld_sound {P : Program} {t : TypeId} {o : Nat} {v : AV} {c : Nat} (ht : tyOk P t = true) (hB : BoxR base μ w v c) (hok : Ok (cV (aggT P t) (aggV (szOf P t) (rangeL (szOf P t) o v.a v.l)) (nthV o v.l))) :
    ∃ z, (Instr.loadAt t (.pointer (some ⟨c, o, none⟩))).run P w = .ok z w ∧ VR μ (cV (aggT P t) (aggV (szOf P t) (rangeL (szOf P t) o v.a v.l)) (nthV o v.l)) z := by
  obtain ⟨cs, e, h1, h2, h3, h4⟩ := hB.ex
  obtain ⟨d, hd⟩ := tyOk_inv ht
  have hag := isAgg_run (P := P) (w := w) ht
  have hl : v.l.length = cs.size := by have := h2.1; simpa using this
  unfold Instr.loadAt Instr.sureAddr
  simp only [Sem.run_bind, Sem.run_pure, Result.andThen_ok]
  unfold loadVar
  rw [Sem.run_bind, hag, Result.andThen_ok]
  cases ha : aggT P t with
  | true =>
    rw [ha, cV_true] at hok
    rw [cV_true]
    obtain ⟨k1, k2⟩ := aggV_ok hok
    rw [k2]
    rcases Nat.eq_zero_or_pos (szOf P t) with h0 | hp
    · rw [h0] at k1 ⊢
      refine ⟨.agg #[], ?_, ?_⟩
      · simp only [if_true, Sem.run_bind, size_run (und_info hd), h0, Result.andThen_ok, Sem.run_pure]
        simp [loadCells, loadCellsFrom]
      · rw [List.eq_nil_of_length_eq_zero k1]; exact .of_agg (cs := []) (xs := []) .nil (by simp)
    · obtain ⟨j1, j2⟩ := rangeL_eq _ _ _ _ k1 hp
      refine ⟨.agg ⟨(cs.toList.drop o).take (szOf P t)⟩, ?_, ?_⟩
      · simp only [if_true, Sem.run_bind, size_run (und_info hd), Result.andThen_ok, Sem.run_pure, loadCells_run h1 (show o + szOf P t ≤ cs.size by omega)]
      · rw [j1] at k1 ⊢
        exact .of_agg' ((h2.drop _).take _) (sub_one h4 _ _) k1
  | false =>
    rw [ha, cV_false] at hok
    rw [cV_false]
    obtain ⟨x, hx, hv⟩ := h2.nth hok
    refine ⟨x, ?_, hv⟩
    simp only [Bool.false_eq_true, if_false]
    exact load1_run h1 (by rw [← Array.getElem?_toList]; exact hx)
/-- .. stored into -/
theorem pst_sound {P : Program} {t : TypeId} {o : Nat} {g v : AV} {x : Value} {c : Nat} (hB : BoxR base μ w g c) (hv : Ok v → VR μ v x)
    (h1 : cellsOk v (szOf P t) = true) (h2 : o + szOf P t ≤ g.a) (hok : Ok (aggV g.a (cL (Nat.beq (szOf P t) g.a) (cellsL v) (spliceL o (cellsL v) g.l)))) :
    ∃ ob, (Instr.storeAt t (.pointer (some ⟨c, o, none⟩)) x).run P w = .ok () (w.setB c ob) ∧ BoxR base μ (w.setB c ob) (aggV g.a (cL (Nat.beq (szOf P t) g.a) (cellsL v) (spliceL o (cellsL v) g.l))) c := by
  obtain ⟨cs, e, k1, k2, k3, k4⟩ := hB.ex
  have hc := hB.lt
  obtain ⟨xs, e1, e2, e3, e4, e5, e6⟩ := cells_of (hv (cellsOk_ok h1)) h1
  have hl : g.l.length = cs.size := by have := k2.1; simpa using this
  have hle : o + xs.length ≤ cs.size := by omega
  have hrun := storeCells_run (P := P) (cb := c) (o := o) (e := e) (fr := (0, 0)) xs 0 cs w k1 (by omega) k4.1 e3
  rw [Nat.add_zero] at hrun
  refine ⟨.cells (spl cs o xs) e (0, 0), ?_, hB.ge, ⟨spl cs o xs, e, by rw [setB_get _ _ _ _ hc, if_pos rfl], ?_, ?_, k4.spl hle e3⟩, hB.un⟩
  · have hsz : x.cells.size = szOf P t := by rw [e1]; exact e4
    unfold Instr.storeAt Instr.sureAddr
    simp only [Sem.run_bind, Sem.run_pure, Result.andThen_ok]
    unfold storeVar
    simp only [Sem.run_bind, size_run (szOf_pos e5), Result.andThen_ok, hsz, ne_eq, not_true_eq_false, if_false]
    rw [e1]
    exact hrun
  · obtain ⟨j1, j2⟩ := aggV_ok hok
    rw [j2]
    show VRs μ (cL (Nat.beq (szOf P t) g.a) (cellsL v) (spliceL o (cellsL v) g.l)) _
    have hsp : (spl cs o xs).toList = cs.toList.take o ++ xs ++ cs.toList.drop (o + xs.length) := rfl
    rw [hsp]
    cases hb : Nat.beq (szOf P t) g.a with
    | true =>
      rw [beq_t] at hb
      rw [cL_true]
      have ho : o = 0 := by omega
      subst ho
      rw [List.take_zero, List.nil_append, List.drop_eq_nil_of_le (by simp; omega), List.append_nil]
      exact e2
    | false =>
      rw [cL_false, spliceL_eq _ _ _ (by omega)]
      exact k2.splice e2 o
  · obtain ⟨j1, j2⟩ := aggV_ok hok
    rw [j2]
    exact j1.symm
/-- .. made -/
theorem pbox_new (hH : HR μ H w) {v : AV} {xs : List Value} (e : TypeId) (hb : base ≤ w.heap.size) (hv : VRs μ v.l xs) (ha : v.a = v.l.length) (h1 : ∀ y ∈ xs, y.oneCell' = true) : BoxR base μ (w.alloc (.cells ⟨xs⟩ e)) v w.heap.size :=
  ⟨hb, ⟨⟨xs⟩, e, by rw [alloc_get, if_pos rfl], hv, ha, nocells _ h1⟩, fun b m hb e => by have := (hH.dom b m hb).2; omega⟩
theorem palloc_sound {P : Program} {t : TypeId} {z : Nat} {cs : List AV} (hz : zeroCs P t = some (z, cs)) (hH : HR μ H w) (hb : base ≤ w.heap.size) :
    ∃ o, (Instr.alloc t true (.tuple #[])).run P w = .ok (.pointer (some ⟨w.heap.size, 0, none⟩)) (w.alloc o) ∧ BoxR base μ (w.alloc o) (pnewH z cs) w.heap.size := by
  obtain ⟨_, _, h3, _, h4⟩ := zeroCs_inv hz
  obtain ⟨z', xs, h5, h6, h7, h8, h9⟩ := h4 μ w
  refine ⟨.cells ⟨xs⟩ t, ?_, ?_⟩
  · unfold Instr.alloc newVar
    simp only [Sem.run_bind, h5, Result.andThen_ok, newRow_run, Sem.run_pure, h6]
  · have e1 : pnewH z cs = vAgg z cs := by
      unfold pnewH aggV
      rw [show lenIs z cs = true by rw [lenIs_eq]; exact h3]; rfl
    rw [e1]
    exact pbox_new hH t hb h7 h3.symm h8
theorem pbx_sound {P : Program} {e : TypeId} {v : AV} {x : Value} (hv : Ok v → VR μ v x) (hH : HR μ H w) (hb : base ≤ w.heap.size) (hok : Ok (pboxH v)) :
    ∃ o, (Instr.box e x).run P w = .ok (.pointer (some ⟨w.heap.size, 0, none⟩)) (w.alloc o) ∧ BoxR base μ (w.alloc o) (pboxH v) w.heap.size := by
  unfold pboxH at hok ⊢
  rw [ok_cV] at hok
  rw [hok.1, cV_true]
  obtain ⟨xs, h2, h3, h4, h5, _, h6⟩ := cells_of (hv (cellsOk_ok hok.1)) hok.1
  refine ⟨.cells ⟨xs⟩ e, ?_, pbox_new hH e hb h3 h6.symm h4⟩
  unfold Instr.box newVar
  simp only [Sem.run_bind, newRow_run, Result.andThen_ok, Sem.run_pure, h2]
end
end Go.Ev

/-! Proofs, part 17: what a compiled operation computes: values. -/
namespace Go.Ev
set_option linter.unusedVariables false
set_option linter.unusedSimpArgs false

/-- all that is known at a place -/
structure RelU (X : Cx) (env : List Ad) (base : Nat) (U : Nat → Prop) (μ : Mu) (H : Heap) (w : World) (τ : QT X.d) (a : Act) : Prop where
  hF : FR X base U μ w τ a
  hA : AR X U env τ a
  hE : EnvOk X env
  hG : GR X.ro μ H
  hH : HR μ H w
  hb : base ≤ w.heap.size
/-- what an operation looks at is known -/
def UsesOk (U : Nat → Prop) (o : Oper) : Prop := ∀ x ∈ o.op.operands.toList, ∀ t, x = .tmp t → ¬ U t
def VOK (μ : Mu) (w : World) (r : Result Next) (v : AV) : Prop := ∃ x, r = .ok (.value x) w ∧ VR μ v x
section
variable {X : Cx} {env : List Ad} {base : Nat} {U : Nat → Prop} {μ : Mu} {w : World} {H : Heap} {τ : QT X.d} {a : Act} {o : Oper} {P : Program}

theorem RelU.opd (R : RelU X env base U μ H w τ a) (hU : UsesOk U o) {x : Operand} (hx : x ∈ o.op.operands.toList) (hok : Ok (cOpd X x τ)) : VR μ (cOpd X x τ) (a.eval x) :=
  cOpd_rel R.hF R.hG (hU x hx) hok
theorem v_run {s : Sem Value} {z : Value} {w' : World} (h : s.run P w = .ok z w') : (do pure (Next.value (← s)) : Sem Next).run P w = .ok (.value z) w' := by
  rw [Sem.run_bind, h, Result.andThen_ok]; rfl
theorem u_run {s : Sem Unit} {w' : World} (h : s.run P w = .ok () w') : (do s; pure Next.skip : Sem Next).run P w = .ok .skip w' := by
  rw [Sem.run_bind, h, Result.andThen_ok]; rfl
theorem VOK.of {s : Sem Value} {v : AV} (h : ∃ z, s.run P w = .ok z w ∧ VR μ v z) : VOK μ w ((do pure (Next.value (← s)) : Sem Next).run P w) v := by
  obtain ⟨z, h1, h2⟩ := h
  exact ⟨z, v_run h1, h2⟩
/-! ### what is not well cannot come of .. -/
theorem ok3 {v : AV} {k : Nat} (h : v.t = k) (hk : k ≤ 24) : Ok v := by unfold Ok; omega
theorem isI_ok {v : AV} (h : isI v = true) : Ok v := by unfold isI at h; rw [bA_true, ble_t, ble_t] at h; unfold Ok; omega
theorem isN_ok {v : AV} (h : isN v = true) : Ok v := by unfold isN at h; rw [bA_true] at h; exact isI_ok h.1
theorem faH_ok {n : Nat} {v : AV} (h : Ok (faH n v)) : Ok v := by unfold faH at h; rw [ok_cV, beq_t] at h; exact ok3 h.1 (by decide)
theorem fldH_ok {ag : Bool} {s n : Nat} {v : AV} (h : Ok (fldH ag s n v)) : Ok v := by unfold fldH at h; rw [ok_cV, beq_t] at h; exact ok3 h.1 (by decide)
theorem ixS_ok {s : Nat} {v u : AV} (h : Ok (ixS s v u)) : Ok v ∧ Ok u := by unfold ixS at h; rw [ok_cV, bA_true, bA_true, beq_t] at h; exact ⟨ok3 h.1.1 (by decide), isN_ok h.1.2.1⟩
theorem ixA_ok {s n : Nat} {v u : AV} (h : Ok (ixA s n v u)) : Ok v ∧ Ok u := by unfold ixA at h; rw [ok_cV, bA_true, bA_true, beq_t] at h; exact ⟨ok3 h.1.1 (by decide), isN_ok h.1.2.1⟩
theorem ixStr_ok {v u : AV} (h : Ok (ixStr v u)) : Ok v ∧ Ok u := by unfold ixStr at h; rw [ok_cV, bA_true, bA_true, beq_t] at h; exact ⟨ok3 h.1.1 (by decide), isN_ok h.1.2.1⟩
theorem ixArr_ok {ag : Bool} {s n : Nat} {v u : AV} (h : Ok (ixArr ag s n v u)) : Ok v ∧ Ok u := by unfold ixArr at h; rw [ok_cV, bA_true, bA_true, beq_t] at h; exact ⟨ok3 h.1.1 (by decide), isN_ok h.1.2.1⟩
theorem keyOk_ok {P : Program} {k : TypeId} {d : TypeDesc} {v : AV} (hd : P.underlying k = some d) (hk : keyKind d) (h : keyOk (keyTag P k) v = true) : Ok v := by
  unfold keyOk at h
  rw [cT_eq] at h
  split at h
  · rw [ble_t] at h; unfold Ok; omega
  · rw [beq_t] at h
    unfold keyTag at h
    rw [hd] at h
    cases d with
    | int i => have := kc_range i; simp only at h; unfold Ok; omega
    | string => exact ok3 h (by decide)
    | bool => exact ok3 h (by decide)
    | _ => exact hk.elim
theorem lookH_ok {P : Program} {z : AV} {ok : Bool} {k : TypeId} {d : TypeDesc} {v u : AV} (hd : P.underlying k = some d) (hk : keyKind d) (h : Ok (lookH z ok (keyTag P k) v u H)) : Ok v ∧ Ok u := by
  unfold lookH at h
  rw [ok_cV] at h
  refine ⟨?_, keyOk_ok hd hk h.1⟩
  rcases ok_cV' h.2 with ⟨h1, _, _⟩ | ⟨_, h2, _⟩
  · rw [beq_t] at h1; exact ok3 h1 (by decide)
  · rw [ok_cV] at h2
    unfold mapB at h2
    rw [bA_true, beq_t] at h2
    exact ok3 h2.1.1 (by decide)
theorem entryH_ok {v : AV} (h : Ok (entryH v H)) : Ok v := by unfold entryH at h; rw [ok_cV, bA_true, beq_t] at h; exact ok3 h.1.1 (by decide)
theorem extH_ok {i : Nat} {v : AV} (h : Ok (extH i v)) : Ok v := by unfold extH at h; rw [ok_cV, beq_t] at h; exact ok3 h.1 (by decide)
theorem ifcH_ok {t : Nat} {v : AV} (h : Ok (ifcH t v)) : Ok v := by unfold ifcH at h; rw [ok_cV, ble_t] at h; exact h.1
theorem asH_ok {z : AV} {t : Nat} {ok : Bool} {v : AV} (h : Ok (asH z t ok v)) : Ok v := by
  unfold asH at h
  rcases ok_cV' h with ⟨h1, _, _⟩ | ⟨_, h2, _⟩
  · rw [beq_t] at h1; exact ok3 h1 (by decide)
  · rw [ok_cV, bA_true, beq_t] at h2; exact ok3 h2.1.1 (by decide)
theorem load_ok {ag : Bool} {s : Nat} {v : AV} (h : Ok (cT ag (loadN s) load1 v H)) : Ok v := by
  cases ag
  · rw [cT_false] at h; unfold load1 at h; rw [ok_cV, beq_t] at h; exact ok3 h.1 (by decide)
  · rw [cT_true] at h; unfold loadN at h; rw [ok_cV, beq_t] at h; exact ok3 h.1 (by decide)
theorem i2_ok {k : IntKind} {h' : Nat → Nat → AV} {v u : AV} (h : Ok (i2 (kc k) h' v u)) : Ok v ∧ Ok u := by
  unfold i2 at h
  rw [ok_cV, bA_true, beq_t, beq_t] at h
  have := kc_range k
  exact ⟨ok3 h.1.1 (by omega), ok3 h.1.2 (by omega)⟩
theorem s2_ok {h' : Nat → Nat → Nat → Nat → AV} {v u : AV} (h : Ok (s2 h' v u)) : Ok v ∧ Ok u := by
  unfold s2 at h
  rw [ok_cV, bA_true, beq_t, beq_t] at h
  exact ⟨ok3 h.1.1 (by decide), ok3 h.1.2 (by decide)⟩
theorem hShift_ok {op : BinOp} {k : IntKind} {v u : AV} (h : Ok (hShift op (kc k) v u)) : Ok v ∧ Ok u := by
  unfold hShift at h
  rw [ok_cV, bA_true, beq_t] at h
  have := kc_range k
  exact ⟨ok3 h.1.1 (by omega), isN_ok h.1.2⟩
theorem notH_ok {v : AV} (h : Ok (notH v)) : Ok v := by
  unfold notH at h
  rcases ok_cV' h with ⟨h1, _, _⟩ | ⟨_, h2, _⟩
  · rw [beq_t] at h1; exact ok3 h1 (by decide)
  · rw [ok_cV, beq_t] at h2; exact ok3 h2.1 (by decide)
theorem nilH_ok {v : AV} (h : Ok (nilH v)) : v.t = 3 ∨ v.t = 16 := by
  unfold nilH at h
  rcases ok_cV' h with ⟨h1, _, _⟩ | ⟨_, h2, _⟩
  · rw [beq_t] at h1; exact .inl h1
  · rw [ok_cV, beq_t] at h2; exact .inr h2.1
theorem cvBS_ok {v : AV} (h : Ok (cvBS v H)) : Ok v := by
  unfold cvBS at h
  rcases ok_cV' h with ⟨h1, _, _⟩ | ⟨_, h2, _⟩
  · rw [beq_t] at h1; exact ok3 h1 (by decide)
  · rw [ok_cV, bA_true, beq_t] at h2; exact ok3 h2.1.1 (by decide)
theorem eqBool_ok {neg : Bool} {v u : AV} (h : Ok (eqR' neg (eqBool v u))) : Ok v ∧ Ok u := by
  unfold eqBool at h
  cases hc : bA (Nat.ble v.t 1) (Nat.ble u.t 1) with
  | false => rw [hc] at h; exact absurd h eqR_bad
  | true => rw [bA_true, ble_t, ble_t] at hc; unfold Ok; omega
theorem eq2_ok {neg : Bool} {n p A B : Nat} {v u : AV} (hn : n ≤ 24) (hp : p ≤ 24) (hB : B = 2 ∨ u.t = p)
    (h : Ok (eqR' neg (cT (Nat.beq v.t n) (cT (Nat.beq u.t n) A (cT (Nat.beq u.t p) 0 2)) (cT (Nat.beq v.t p) (cT (Nat.beq u.t n) 0 B) 2)))) : Ok v ∧ Ok u := by
  by_cases h1 : v.t = n
  · refine ⟨ok3 h1 hn, ?_⟩
    rw [h1, show Nat.beq n n = true by rw [beq_t], cT_true] at h
    by_cases h2 : u.t = n
    · exact ok3 h2 hn
    · rw [beq_f h2, cT_false] at h
      by_cases h3 : u.t = p
      · exact ok3 h3 hp
      · rw [beq_f h3] at h; exact absurd h eqR_bad
  · rw [beq_f h1, cT_false] at h
    by_cases h4 : v.t = p
    · refine ⟨ok3 h4 hp, ?_⟩
      rw [h4, show Nat.beq p p = true by rw [beq_t], cT_true] at h
      by_cases h2 : u.t = n
      · exact ok3 h2 hn
      · rw [beq_f h2, cT_false] at h
        rcases hB with rfl | h3
        · exact absurd h eqR_bad
        · exact ok3 h3 hp
    · rw [beq_f h4] at h; exact absurd h eqR_bad
theorem eqNil_ok {neg : Bool} {n p : Nat} {v u : AV} (hn : n ≤ 24) (hp : p ≤ 24) (h : Ok (eqR' neg (eqNil n p v u))) : Ok v ∧ Ok u := eq2_ok hn hp (.inl rfl) h
theorem eqIfc_ok {neg cst : Bool} {v u : AV} (h : Ok (eqR' neg (eqIfc cst v u))) : Ok v ∧ Ok u := eq2_ok (by decide) (by decide) (.inl rfl) h
theorem eqPP_ok {neg : Bool} {v u : AV} (h : Ok (eqR' neg (eqPP v u H))) : Ok v ∧ Ok u := by
  by_cases h3 : u.t = 3
  · exact eq2_ok (n := 4) (p := 3) (by decide) (by decide) (.inr h3) h
  · refine eq2_ok (neg := neg) (n := 4) (p := 3) (A := 1) (B := 2) (by decide) (by decide) (.inl rfl) ?_
    unfold eqPP at h
    rw [beq_f h3] at h ⊢
    exact h
/-! ### the two of an equality -/
theorem eqGuard_no {op : BinOp} {t : TypeId} {xo yo : Operand} {x y : Value} (h1 : x ≠ .nilIface) (h2 : ∀ cs, x ≠ .agg cs) : (eqGuard op t xo yo x y).run P w = .ok () w := by
  unfold eqGuard
  cases op <;> first | rfl | (cases x <;> first | exact absurd rfl h1 | exact absurd rfl (h2 _) | rfl)
theorem bin_run {op : BinOp} {t : TypeId} {xo yo : Operand} {x y z : Value} (h1 : x ≠ .nilIface) (h2 : ∀ cs, x ≠ .agg cs) (h : (binOp op t x y).run P w = .ok z w) :
    (do eqGuard op t xo yo x y; binOp op t x y : Sem Value).run P w = .ok z w := by
  rw [Sem.run_bind, eqGuard_no h1 h2, Result.andThen_ok]; exact h
theorem bin_of {op : BinOp} {t : TypeId} {xo yo : Operand} {x y : Value} {v : AV} (h1 : x ≠ .nilIface) (h2 : ∀ cs, x ≠ .agg cs) (h : ∃ z, (binOp op t x y).run P w = .ok z w ∧ VR μ v z) :
    ∃ z, (do eqGuard op t xo yo x y; binOp op t x y : Sem Value).run P w = .ok z w ∧ VR μ v z := by
  obtain ⟨z, k1, k2⟩ := h
  exact ⟨z, bin_run h1 h2 k1, k2⟩
theorem vr_int_ne {v : AV} {x : Value} (hv : VR μ v x) (h : 8 ≤ v.t ∧ v.t ≤ 15 ∨ v.t = 2) : x ≠ .nilIface ∧ ∀ cs, x ≠ .agg cs := by
  rcases h with h | h
  · obtain ⟨k, n, _, rfl, _⟩ := hv.inv_isI h
    exact ⟨by simp, by simp⟩
  · obtain ⟨s, rfl, _⟩ := hv.inv_str h
    exact ⟨by simp, by simp⟩
theorem eqCO_sound {neg : Bool} {t : TypeId} {x y : Operand} {k : Nat} {f : QT X.d → Heap → AV} (R : RelU X env base U μ H w τ a) (hx : Ok (cOpd X x τ) → VR μ (cOpd X x τ) (a.eval x)) (hy : Ok (cOpd X y τ) → VR μ (cOpd X y τ) (a.eval y))
    (h : eqCO X neg t x y = .val k f) (hok : Ok (f τ H)) : ∃ z, eqRun X.P w neg t x y (a.eval x) (a.eval y) = .ok z w ∧ VR μ (f τ H) z := by
  have hC : ∀ (h' : AV → AV → Nat) (k : Nat) (f : QT X.d → Heap → AV), eqC (d := X.d) h' neg (cOpd X x) (cOpd X y) = .val k f → f τ H = eqR' neg (h' (cOpd X x τ) (cOpd X y τ)) := by
    intro h' k f e
    unfold eqC at e
    injection e with _ e
    rw [← e]; cases neg <;> rfl
  have hR : ∀ (h' : AV → AV → Heap → Nat) (k : Nat) (f : QT X.d → Heap → AV), eqR (d := X.d) h' neg (cOpd X x) (cOpd X y) = .val k f → f τ H = eqR' neg (h' (cOpd X x τ) (cOpd X y τ) H) := by
    intro h' k f e
    unfold eqR at e
    injection e with _ e
    rw [← e]; cases neg <;> rfl
  unfold eqCO at h
  split at h
  · rename_i ht
    rw [hC _ _ _ h] at hok ⊢
    obtain ⟨o1, o2⟩ := eqBool_ok hok
    exact eqBool_sound ht (hx o1) (hy o2) hok
  · rename_i e ht
    rw [cT_eq] at h
    split at h
    · cases h
    · rename_i hz
      rw [hR _ _ _ h] at hok ⊢
      obtain ⟨o1, o2⟩ := eqPP_ok hok
      exact eqPP_sound ht (fun e => hz (by rw [beq_t]; exact e)) R.hH (hx o1) (hy o2) hok
  · rename_i ht
    rw [hC _ _ _ h] at hok ⊢
    obtain ⟨o1, o2⟩ := eqNil_ok (by decide) (by decide) hok
    exact eqNil6_sound ht (hx o1) (hy o2) hok
  · rename_i ht
    rw [hC _ _ _ h] at hok ⊢
    obtain ⟨o1, o2⟩ := eqNil_ok (by decide) (by decide) hok
    exact eqNil24_sound ht (hx o1) (hy o2) hok
  · rename_i ht
    rw [hC _ _ _ h] at hok ⊢
    obtain ⟨o1, o2⟩ := eqNil_ok (by decide) (by decide) hok
    exact eqNil18_sound ht (hx o1) (hy o2) hok
  · rename_i ht
    rw [hC _ _ _ h] at hok ⊢
    obtain ⟨o1, o2⟩ := eqIfc_ok hok
    exact eqIfc_sound ht (hx o1) (hy o2) hok
  · cases h
theorem binCO_sound {op : BinOp} {t : TypeId} {x y : Operand} {k : Nat} {f : QT X.d → Heap → AV} (R : RelU X env base U μ H w τ a) (hx : Ok (cOpd X x τ) → VR μ (cOpd X x τ) (a.eval x)) (hy : Ok (cOpd X y τ) → VR μ (cOpd X y τ) (a.eval y))
    (h : binCO X op t x y = .val k f) (hok : Ok (f τ H)) : ∃ z, (do eqGuard op t x y (a.eval x) (a.eval y); binOp op t (a.eval x) (a.eval y) : Sem Value).run X.P w = .ok z w ∧ VR μ (f τ H) z := by
  unfold binCO at h
  split at h
  · rename_i i ht
    have hsh : ∀ op, op = .shl ∨ op = .shr → Ok (hShift op (kc i) (cOpd X x τ) (cOpd X y τ)) → ∃ z, (do eqGuard op t x y (a.eval x) (a.eval y); binOp op t (a.eval x) (a.eval y) : Sem Value).run X.P w = .ok z w ∧ VR μ (hShift op (kc i) (cOpd X x τ) (cOpd X y τ)) z := by
      intro op hop hok
      obtain ⟨o1, o2⟩ := hShift_ok hok
      have h0 := hok
      unfold hShift at h0
      rw [ok_cV, bA_true, beq_t] at h0
      have hr := kc_range i
      have hne := vr_int_ne (hx o1) (.inl (by omega))
      exact bin_of hne.1 hne.2 (shift_sound hop (hx o1) (hy o2) hok)
    have har : ∀ op, Ok (i2 (kc i) (arithH op (kc i)) (cOpd X x τ) (cOpd X y τ)) → ∃ z, (do eqGuard op t x y (a.eval x) (a.eval y); binOp op t (a.eval x) (a.eval y) : Sem Value).run X.P w = .ok z w ∧ VR μ (i2 (kc i) (arithH op (kc i)) (cOpd X x τ) (cOpd X y τ)) z := by
      intro op hok
      obtain ⟨o1, o2⟩ := i2_ok hok
      have h0 := hok
      unfold i2 at h0
      rw [ok_cV, bA_true, beq_t, beq_t] at h0
      have hr := kc_range i
      have hne := vr_int_ne (hx o1) (.inl (by omega))
      exact bin_of hne.1 hne.2 (i2_sound (hx o1) (hy o2) hok)
    cases op <;> (simp only at h; injection h with _ h; subst h) <;> first | exact hsh _ (.inl rfl) hok | exact hsh _ (.inr rfl) hok | exact har _ hok
  · injection h with _ h; subst h
    obtain ⟨o1, o2⟩ := s2_ok hok
    have h0 : Ok (s2 (stringH op) (cOpd X x τ) (cOpd X y τ)) := hok
    unfold s2 at h0
    rw [ok_cV, bA_true, beq_t, beq_t] at h0
    have hne := vr_int_ne (hx o1) (.inr h0.1.1)
    exact bin_of hne.1 hne.2 (string_sound (hx o1) (hy o2) hok)
  · split at h
    · exact eqCO_sound R hx hy h hok
    · exact eqCO_sound R hx hy h hok
    · cases h
end
end Go.Ev

/-! Proofs, part 18: what a compiled operation computes: values (2). -/
namespace Go.Ev
set_option linter.unusedVariables false
set_option linter.unusedSimpArgs false
section
variable {X : Cx} {env : List Ad} {base : Nat} {U : Nat → Prop} {μ : Mu} {w : World} {H : Heap} {τ : QT X.d} {a : Act} {o : Oper} {P : Program}

theorem val_inj {d k k' : Nat} {f f' : QT d → Heap → AV} (h : CO.val k f = .val k' f') : f' = f := by injection h with _ h; exact h.symm
theorem unCO_sound {op : UnOp} {t : TypeId} {x : Operand} {k : Nat} {f : QT X.d → Heap → AV} (hx : Ok (cOpd X x τ) → VR μ (cOpd X x τ) (a.eval x))
    (h : unCO X op t x = .val k f) (hok : Ok (f τ H)) : ∃ z, (Op.unary op (a.eval x)).run X.P w = .ok z w ∧ VR μ (f τ H) z := by
  unfold unCO at h
  split at h
  · have := val_inj h; subst this
    exact not_sound (hx (notH_ok hok)) hok
  · split at h
    · rename_i i ht
      have := val_inj h; subst this
      have h0 : Ok (negH (kc i) (Nat.add (kLo (kc i)) 9223372036854775808) (Nat.add (kHi (kc i)) 9223372036854775808) (cOpd X x τ)) := hok
      refine neg_sound (hx ?_) hok
      unfold negH at h0
      rw [ok_cV, beq_t] at h0
      have := kc_range i
      exact ok3 h0.1 (by omega)
    · cases h
  · split at h
    · rename_i i ht
      have := val_inj h; subst this
      have h0 : Ok (cplH (kc i) (cOpd X x τ)) := hok
      refine cpl_sound (hx ?_) hok
      unfold cplH at h0
      rw [ok_cV, beq_t] at h0
      have := kc_range i
      exact ok3 h0.1 (by omega)
    · cases h
  · cases h
theorem convCO_sound {s t : TypeId} {x : Operand} {k : Nat} {f : QT X.d → Heap → AV} (R : RelU X env base U μ H w τ a) (hx : Ok (cOpd X x τ) → VR μ (cOpd X x τ) (a.eval x))
    (h : convCO X s t x = .val k f) (hok : Ok (f τ H)) : ∃ z, (convert s t (a.eval x)).run X.P w = .ok z w ∧ VR μ (f τ H) z := by
  unfold convCO at h
  split at h
  · rename_i i j hs ht
    have := val_inj h; subst this
    have h0 : Ok (cvI (kc j) (Nat.add (kLo (kc j)) 9223372036854775808) (Nat.add (kHi (kc j)) 9223372036854775808) (cOpd X x τ)) := hok
    have h1 := h0
    unfold cvI at h1
    rw [ok_cV] at h1
    obtain ⟨j', n, e, hv⟩ := conv_sound (hx (isI_ok h1.1)) h0
    refine ⟨_, ?_, hv⟩
    rw [e]
    unfold convert
    simp only [Sem.run_bind, und_run hs, und_run ht, Result.andThen_ok]
    rfl
  · rename_i i hs ht
    have := val_inj h; subst this
    have h0 : Ok (cvIS (cOpd X x τ)) := hok
    have h1 := h0
    unfold cvIS at h1
    rw [ok_cV] at h1
    obtain ⟨j', n, z, e, hz, hv⟩ := cvIS_sound (P := X.P) (w := w) (hx (isI_ok h1.1)) h0
    refine ⟨z, ?_, hv⟩
    rw [e]
    unfold convert
    simp only [Sem.run_bind, und_run hs, und_run ht, Result.andThen_ok]
    exact hz
  · rename_i hs ht
    have := val_inj h; subst this
    have h0 : Ok (cvSS (cOpd X x τ)) := hok
    have h1 := h0
    unfold cvSS at h1
    rw [ok_cV, beq_t] at h1
    obtain ⟨s', e, hv⟩ := cvSS_sound (hx (ok3 h1.1 (by decide))) h0
    refine ⟨_, ?_, hv⟩
    rw [e]
    unfold convert
    simp only [Sem.run_bind, und_run hs, und_run ht, Result.andThen_ok, Sem.run_pure]
  · split at h
    · cases h
    · cases h
  · rename_i e hs ht
    split at h
    · rename_i he
      have := val_inj h; subst this
      have h0 : Ok (cvBS (cOpd X x τ) H) := hok
      have hv := hx (cvBS_ok h0)
      obtain ⟨z, hz, hzv⟩ := cvBS_sound (P := X.P) (w := w) R.hH hv h0
      refine ⟨z, ?_, hzv⟩
      have hsl : (∃ aa n c, a.eval x = .slice aa n c) := by
        unfold cvBS at h0
        rcases ok_cV' h0 with ⟨h1, _, _⟩ | ⟨_, h2, _⟩
        · rw [beq_t] at h1
          obtain ⟨e1, _⟩ := hv.inv_nils h1
          exact ⟨_, _, _, e1⟩
        · rw [ok_cV, bA_true, beq_t] at h2
          obtain ⟨m, off, cap, _, e1, _⟩ := hv.inv_sl h2.1.1
          exact ⟨_, _, _, e1⟩
      obtain ⟨aa, n, c, e1⟩ := hsl
      rw [e1] at hz ⊢
      unfold convert
      simp only [Sem.run_bind, und_run hs, und_run ht, Result.andThen_ok, und_run he]
      exact hz
    · cases h
  · cases h
theorem cBd_has (x : Option Operand) : (cBd X x).has = (x.map a.eval).isSome := by cases x <;> rfl
theorem cBd_rel {x : Option Operand} (hx : ∀ y, x = some y → Ok (cOpd X y τ) → VR μ (cOpd X y τ) (a.eval y)) : ∀ y, x.map a.eval = some y → Ok ((cBd X x).g τ) → VR μ ((cBd X x).g τ) y := by
  intro y hy hok
  cases x with
  | none => cases hy
  | some z =>
    have : a.eval z = y := by simpa using hy
    rw [← this]
    exact hx z rfl hok
theorem slCO_sound {t : TypeId} {x : Operand} {lo hi mx : Option Operand} {k : Nat} {f : QT X.d → Heap → AV} (R : RelU X env base U μ H w τ a) (hx : Ok (cOpd X x τ) → VR μ (cOpd X x τ) (a.eval x))
    (h1 : ∀ y, lo = some y → Ok (cOpd X y τ) → VR μ (cOpd X y τ) (a.eval y)) (h2 : ∀ y, hi = some y → Ok (cOpd X y τ) → VR μ (cOpd X y τ) (a.eval y)) (h3 : ∀ y, mx = some y → Ok (cOpd X y τ) → VR μ (cOpd X y τ) (a.eval y))
    (h : slCO X t x lo hi mx = .val k f) (hok : Ok (f τ H)) : ∃ z, (Instr.sliceAt t (a.eval x) (lo.map a.eval) (hi.map a.eval) (mx.map a.eval)).run X.P w = .ok z w ∧ VR μ (f τ H) z := by
  unfold slCO at h
  rw [cT_eq] at h
  split at h
  · cases h
  · rename_i hc
    have hno : (mx.map a.eval).isSome = true → (hi.map a.eval).isSome = true := by
      intro e
      rw [bA_true] at hc
      simp only [Option.isSome_map] at e ⊢
      cases hh : hi.isSome
      · exact absurd ⟨e, by rw [hh]; rfl⟩ hc
      · rfl
    split at h
    · rename_i ht
      split at h
      · have := val_inj h; subst this
        have h0 : Ok (slStr (cOpd X x) (cBd X lo) (cBd X hi) τ H) := hok
        unfold slStr at h0
        rw [ok_cV, bA_true, bA_true, beq_t] at h0
        obtain ⟨⟨o1, o2, o3⟩, o4⟩ := h0
        obtain ⟨s, e1, e2⟩ := (hx (ok3 o1 (by decide))).inv_str o1
        have eq0 : slStr (cOpd X x) (cBd X lo) (cBd X hi) τ H = slS2 (cOpd X x τ) (bdN (cBd X lo) τ 0) (bdN (cBd X hi) τ (cOpd X x τ).a) := by
          unfold slStr
          rw [show bA (Nat.beq (cOpd X x τ).t 2) (bA (bdOk (cBd X lo) τ) (bdOk (cBd X hi) τ)) = true by rw [bA_true, bA_true, beq_t]; exact ⟨o1, o2, o3⟩, cV_true]
        rw [eq0]
        have b1 := bd_rel (μ := μ) (b := cBd X lo) (τ := τ) (x := lo.map a.eval) (cBd_has lo) (cBd_rel h1) o2 0
        have b2 := bd_rel (μ := μ) (b := cBd X hi) (τ := τ) (x := hi.map a.eval) (cBd_has hi) (cBd_rel h2) o3 (cOpd X x τ).a
        rw [e2] at b2 o4 ⊢
        rw [e1]
        exact slS2_sound ht b1 b2 o4
      · cases h
    · rename_i e ht
      rw [cT_eq] at h
      split at h
      · cases h
      · rename_i hz
        have := val_inj h; subst this
        have h0 : Ok (slH (szOf X.P e) (cOpd X x) (cBd X lo) (cBd X hi) (cBd X mx) τ H) := hok
        have hox : Ok (cOpd X x τ) := by
          unfold slH at h0
          rw [ok_cV] at h0
          rcases ok_cV' h0.2 with ⟨q, _, _⟩ | ⟨_, q, _⟩
          · rw [beq_t] at q; exact ok3 q (by decide)
          · rw [ok_cV, bA_true, beq_t] at q; exact ok3 q.1.1 (by decide)
        exact slH_sound ht (Nat.pos_of_ne_zero fun e => hz (by rw [beq_t]; exact e)) R.hH (hx hox) (cBd_has lo) (cBd_has hi) (cBd_has mx) (cBd_rel h1) (cBd_rel h2) (cBd_rel h3) hno h0
    · rename_i m e ht
      rw [cT_eq] at h
      split at h
      · rename_i he
        have := val_inj h; subst this
        have h0 : Ok (slArr (szOf X.P e) m (cOpd X x) (cBd X lo) (cBd X hi) (cBd X mx) τ H) := hok
        have hox : Ok (cOpd X x τ) := by
          unfold slArr at h0
          rw [ok_cV, bA_true, beq_t] at h0
          exact ok3 h0.1.1 (by decide)
        exact slArr_sound ht he (hx hox) (cBd_has lo) (cBd_has hi) (cBd_has mx) (cBd_rel h1) (cBd_rel h2) (cBd_rel h3) hno h0
      · cases h
    · cases h
/-! ### structs and arrays that are built -/
theorem partsS_rel {n : Nat} {pl : List (Nat × Nat)} : ∀ {ps : List (Nat × Operand)} {r : List (Pt X.d)}, partsS X n pl ps = some r → (∀ p ∈ ps, Ok (cOpd X p.2 τ) → VR μ (cOpd X p.2 τ) (a.eval p.2)) →
    PtR μ τ n (fun i => pl[i]?) r (ps.map fun p => (p.1, a.eval p.2))
  | [], r, h, _ => by cases h; exact .nil
  | (i, x) :: ps, r, h, hv => by
    unfold partsS at h
    split at h
    · rename_i o s r' h1 h2
      rw [cT_eq] at h
      split at h
      · rename_i hc
        rw [ble_t] at hc
        cases h
        exact .cons (p := ⟨o, s, cOpd X x⟩) h1 hc (hv (i, x) (by simp)) (partsS_rel h2 fun p hp => hv p (by simp [hp]))
      · cases h
    · cases h
theorem partsA_rel {s n : Nat} : ∀ {ps : List (Nat × Operand)} {r : List (Pt X.d)}, partsA X s n ps = some r → (∀ p ∈ ps, Ok (cOpd X p.2 τ) → VR μ (cOpd X p.2 τ) (a.eval p.2)) →
    PtR μ τ n (fun i => some (i * s, s)) r (ps.map fun p => (p.1, a.eval p.2))
  | [], r, h, _ => by cases h; exact .nil
  | (i, x) :: ps, r, h, hv => by
    unfold partsA at h
    rw [cT_eq] at h
    split at h
    · rename_i hc
      rw [ble_t] at hc
      split at h
      · rename_i r' h2
        cases h
        exact .cons (p := ⟨i * s, s, cOpd X x⟩) rfl hc (hv (i, x) (by simp)) (partsA_rel h2 fun p hp => hv p (by simp [hp]))
      · cases h
    · cases h
theorem buildCO_sound {t : TypeId} {ps : Array (Nat × Operand)} {k : Nat} {f : QT X.d → Heap → AV} (hv : ∀ p ∈ ps.toList, Ok (cOpd X p.2 τ) → VR μ (cOpd X p.2 τ) (a.eval p.2))
    (h : buildCO X t ps.toList = .val k f) (hok : Ok (f τ H)) : ∃ z, (Instr.build t (ps.map fun (i, x) => (i, a.eval x))).run X.P w = .ok z w ∧ VR μ (f τ H) z := by
  have hps : (ps.map fun ((i, x) : Nat × Operand) => (i, a.eval x)) = ⟨ps.toList.map fun p => (p.1, a.eval p.2)⟩ := by
    apply Array.ext'
    simp
  rw [hps]
  unfold buildCO at h
  rw [cT_eq] at h
  split at h
  · cases h
  · rename_i hc
    have h0 : (zeroA X.P t).a = 0 → ps.toList = [] := by
      intro e
      rw [bA_true, beq_t] at hc
      cases hl : ps.toList with
      | nil => rfl
      | cons p r => exact absurd ⟨e, by rw [hl]; rfl⟩ hc
    rw [cT_eq] at h
    split at h
    · rename_i hz
      rw [beq_t] at hz
      split at h
      · rename_i fs hu
        rw [cT_eq] at h
        split at h
        · rename_i hall
          split at h
          · rename_i r hr
            have := val_inj h; subst this
            have hp := partsS_rel (μ := μ) (τ := τ) (a := a) hr hv
            refine build_sound (ps := r) hz (fun e => ?_) hp (.inl ⟨fs, hu, fun f hf => ?_, ?_⟩) hok
            · rw [h0 e] at hr; unfold partsS at hr; cases hr; rfl
            · rw [List.all_eq_true] at hall; exact hall f hf
            · funext i; simp [fieldPlaces]
          · cases h
        · cases h
      · rename_i n e hu
        rw [cT_eq] at h
        split at h
        · rename_i he
          split at h
          · rename_i r hr
            have := val_inj h; subst this
            have hp := partsA_rel (μ := μ) (τ := τ) (a := a) hr hv
            refine build_sound (ps := r) hz (fun e => ?_) hp (.inr ⟨n, e, hu, he, rfl⟩) hok
            rw [h0 e] at hr; unfold partsA at hr; cases hr; rfl
          · cases h
        · cases h
      · cases h
    · cases h
end
end Go.Ev

/-! Proofs, part 19: what a compiled operation computes: values (3). -/
namespace Go.Ev
set_option linter.unusedVariables false
set_option linter.unusedSimpArgs false
section
variable {X : Cx} {env : List Ad} {base : Nat} {U : Nat → Prop} {μ : Mu} {w : World} {H : Heap} {τ : QT X.d} {a : Act} {o : Oper} {P : Program}

theorem lenCO_sound {t ty : TypeId} {x : Operand} {ats : Array TypeId} {k : Nat} {f : QT X.d → Heap → AV} (R : RelU X env base U μ H w τ a) (ha : ats[0]? = some t) (hx : Ok (cOpd X x τ) → VR μ (cOpd X x τ) (a.eval x))
    (h : lenCO X t x = .val k f) (hok : Ok (f τ H)) : ∃ z, (Builtin.len_ ats ty #[a.eval x]).run X.P w = .ok z w ∧ VR μ (f τ H) z := by
  unfold lenCO at h
  split at h
  · rename_i ht
    have := val_inj h; subst this
    have h0 : Ok (lenStr (cOpd X x τ)) := hok
    have h1 := h0
    unfold lenStr at h1
    rw [ok_cV, beq_t] at h1
    exact lenStr_sound ht ha (hx (ok3 h1.1 (by decide))) h0
  · rename_i ht
    have := val_inj h; subst this
    have h0 : Ok (lenSl (cOpd X x τ)) := hok
    refine lenSl_sound ht ha (hx ?_) h0
    unfold lenSl at h0
    rcases ok_cV' h0 with ⟨q, _, _⟩ | ⟨_, q, _⟩
    · rw [beq_t] at q; exact ok3 q (by decide)
    · rw [ok_cV, beq_t] at q; exact ok3 q.1 (by decide)
  · rename_i ht
    have := val_inj h; subst this
    exact lenArr_sound ht ha
  · rename_i ht
    split at h
    · rename_i hp
      have := val_inj h; subst this
      exact lenPArr_sound ht hp ha
    · cases h
  · rename_i ht
    have := val_inj h; subst this
    have h0 : Ok (lenMap (cOpd X x τ) H) := hok
    refine lenMap_sound ht ha R.hH (hx ?_) h0
    unfold lenMap at h0
    rcases ok_cV' h0 with ⟨q, _, _⟩ | ⟨_, q, _⟩
    · rw [beq_t] at q; exact ok3 q (by decide)
    · rw [ok_cV] at q
      have q1 := q.1
      unfold mapB at q1
      rw [bA_true, beq_t] at q1
      exact ok3 q1.1 (by decide)
  · cases h
theorem mmL_eq {isMax : Bool} (gs : List (QT X.d → AV)) (v : AV) : mmL isMax gs v τ = (gs.map fun g => g τ).foldl (mm2 isMax) v := by
  unfold mmL
  rw [List.foldl_map]
theorem mm_run {isMax : Bool} {x : Operand} {xs : List Operand} (hx : ∀ y ∈ x :: xs, Ok (cOpd X y τ) → VR μ (cOpd X y τ) (a.eval y)) (hok : Ok (mmP isMax (cOpd X x) (xs.map (cOpd X)) τ H)) :
    ∃ z, ((if isMax then (xs.map a.eval).foldlM Builtin.max2 (a.eval x) else (xs.map a.eval).foldlM Builtin.min2 (a.eval x) : Sem Value)).run P w = .ok z w ∧ VR μ (mmP isMax (cOpd X x) (xs.map (cOpd X)) τ H) z := by
  unfold mmP at hok ⊢
  rw [ok_cV] at hok
  rw [hok.1, cV_true]
  have h2 := hok.2
  rw [mmL_eq] at h2 ⊢
  refine mm_fold _ _ _ _ (by simp) (fun i u y h1 h3 h4 => ?_) (hx x (by simp)) h2
  simp only [List.getElem?_map, Option.map_eq_some_iff] at h1 h3
  obtain ⟨g, ⟨o', ho', rfl⟩, rfl⟩ := h1
  obtain ⟨o'', ho'', rfl⟩ := h3
  have : o' = o'' := by rw [ho'] at ho''; exact Option.some.inj ho''
  subst this
  exact hx o' (by simp [List.mem_of_getElem? ho']) h4
theorem builtin_val {b : Builtin} {ats : Array TypeId} {args : Array Operand} {ty : TypeId} {cs : Array Bool} {k : Nat} {f : QT X.d → Heap → AV} (R : RelU X env base U μ H w τ a) (hx : ∀ y ∈ args.toList, Ok (cOpd X y τ) → VR μ (cOpd X y τ) (a.eval y))
    (h : builtinCO X b ats.toList args.toList = .val k f) (hok : Ok (f τ H)) : VOK μ w ((Go.builtin b ats ty cs (args.map a.eval)).run X.P w) (f τ H) := by
  obtain ⟨ats⟩ := ats
  obtain ⟨args⟩ := args
  have e0 : (⟨args⟩ : Array Operand).map a.eval = ⟨args.map a.eval⟩ := by apply Array.ext'; simp
  rw [e0]
  simp only at h hx
  unfold builtinCO at h
  split at h
  · rename_i t _ x
    exact VOK.of (lenCO_sound R (by simp) (hx x (by simp)) h hok)
  · rename_i t _ x
    split at h
    · rename_i ht
      have := val_inj h; subst this
      have h0 : Ok (capSl (cOpd X x τ)) := hok
      refine VOK.of (capSl_sound ht (by simp) (hx x (by simp) ?_) h0)
      unfold capSl at h0
      rcases ok_cV' h0 with ⟨q, _, _⟩ | ⟨_, q, _⟩
      · rw [beq_t] at q; exact ok3 q (by decide)
      · rw [ok_cV, beq_t] at q; exact ok3 q.1 (by decide)
    · cases h
  · rename_i x xs
    have := val_inj h; subst this
    exact VOK.of (mm_run (isMax := false) hx hok)
  · rename_i x xs
    have := val_inj h; subst this
    exact VOK.of (mm_run (isMax := true) hx hok)
  · split at h
    · split at h <;> cases h
    · cases h
  · split at h <;> cases h
  · split at h <;> cases h
  · split at h <;> cases h
  · cases h
theorem exec_builtin {c : Call} {b : Builtin} (ρ : Operand → Value) (ho : o.op = .call c) (hc : c.callee = .builtin b) :
    (execOp ρ o).run P w = (Go.builtin b c.argTypes o.type (c.args.map fun | .const _ => true | _ => false) (c.args.map ρ)).run P w := by
  unfold execOp
  rw [ho]
  simp only
  rw [Sem.run_bind]
  unfold resolve
  rw [hc]
  rfl
end
end Go.Ev

/-! Proofs, part 20: what a compiled operation computes: values (4). -/
namespace Go.Ev
set_option linter.unusedVariables false
set_option linter.unusedSimpArgs false
section
variable {X : Cx} {env : List Ad} {base : Nat} {U : Nat → Prop} {μ : Mu} {w : World} {H : Heap} {τ : QT X.d} {a : Act} {o : Oper} {P : Program}

theorem exec_op {op : Op} (ρ : Operand → Value) (ho : o.op = op) : execOp ρ o = execOp ρ { o with op := op } := by subst ho; rfl
/-- an operation that gives a value -/
theorem val_sound {k : Nat} {f : QT X.d → Heap → AV} (R : RelU X env base U μ H w τ a) (hU : UsesOk U o) (hUb : ∀ b, k = b + 2 → ¬ U b) (h : cCO X env o = .val k f) (hok : Ok (f τ H)) :
    VOK μ w ((execOp a.eval o).run X.P w) (f τ H) := by
  have hop : ∀ x ∈ o.op.operands.toList, Ok (cOpd X x τ) → VR μ (cOpd X x τ) (a.eval x) := fun x hx hok => R.opd hU hx hok
  rw [cCO_eq] at h
  unfold cCOs at h
  split at h
  · -- move
    rename_i x ho
    have := val_inj h; subst this
    rw [exec_op _ ho]; rw [ho] at hop
    exact ⟨a.eval x, rfl, hop x (by simp [Op.operands]) hok⟩
  · -- assign
    rename_i x ho
    have := val_inj h; subst this
    rw [exec_op _ ho]; rw [ho] at hop
    exact ⟨a.eval x, rfl, hop x (by simp [Op.operands]) hok⟩
  · -- pick
    rename_i c x y ho
    have := val_inj h; subst this
    rw [exec_op _ ho]; rw [ho] at hop
    have h0 : Ok (cV (Nat.beq (cOpd X c τ).t 1) (cOpd X x τ) (cV (Nat.beq (cOpd X c τ).t 0) (cOpd X y τ) vX)) := hok
    have hc : Ok (cOpd X c τ) := by
      rcases ok_cV' h0 with ⟨q, _, _⟩ | ⟨_, q, _⟩
      · rw [beq_t] at q; exact ok3 q (by decide)
      · rw [ok_cV, beq_t] at q; exact ok3 q.1 (by decide)
    obtain ⟨r, h1, h2⟩ := pick_sound (P := X.P) (w := w) (hop c (by simp [Op.operands]) hc) (hop x (by simp [Op.operands])) (hop y (by simp [Op.operands])) h0
    refine ⟨r, ?_, h2⟩
    show (do pure (Next.value (if ← asBool (a.eval c) then a.eval x else a.eval y)) : Sem Next).run X.P w = _
    rw [Sem.run_bind] at h1 ⊢
    cases hb : (asBool (a.eval c)).run X.P w with
    | ok b w' =>
      rw [hb] at h1
      simp only [Result.andThen_ok, Sem.run_pure] at h1 ⊢
      injection h1 with h1 h3
      rw [h1, h3]
    | halt e w' => rw [hb] at h1; cases h1
  · -- alloc
    split at h
    · split at h
      · rw [cT_eq] at h
        split at h
        · rw [cT_eq] at h
          split at h <;> cases h
        · cases h
      · cases h
    · cases h
  · -- box
    split at h
    · rw [cT_eq] at h
      split at h
      · rw [cT_eq] at h
        split at h <;> cases h
      · cases h
    · cases h
  · -- build
    rename_i t ps ho
    rw [exec_op _ ho]; rw [ho] at hop
    exact VOK.of (buildCO_sound (fun p hp => hop p.2 (by simp [Op.operands]; exact ⟨p.1, by simpa using hp⟩)) h hok)
  · -- buildSlice
    unfold bsliceCO at h
    split at h
    · cases h
    · split at h
      · cases h
      · rw [cT_eq] at h
        split at h <;> cases h
  · -- load
    rename_i t x ho
    rw [exec_op _ ho]
    split at h
    · rename_i p hp
      rw [cT_eq] at h
      split at h
      · cases h
      · rename_i hty
        injection h with hk h
        subst h
        have hty' : tyOk X.P t = true := by simpa using hty
        have h0 : Ok (cV (bA (Nat.beq (slot X p.chk τ).t p.tag) (Nat.beq (slot X p.box τ).t 21)) (cV (aggT X.P t) (aggV (szOf X.P t) (rangeL (szOf X.P t) p.off (slot X p.box τ).a (slot X p.box τ).l)) (nthV p.off (slot X p.box τ).l)) vX) := hok
        rw [ok_cV, bA_true, beq_t, beq_t] at h0
        obtain ⟨⟨c1, c2⟩, h1⟩ := h0
        obtain ⟨c, k1, k2, k3, _, _⟩ := cAdr_sound R.hF R.hA R.hE hp (fun t e => hU x (by rw [ho]; simp [Op.operands]) t e) (hUb p.box (by rw [← hk])) c1 c2
        obtain ⟨z, z1, z2⟩ := pld_sound hty' k3 h1
        have e1 : pld (aggT X.P t) (szOf X.P t) p.off (slot X p.chk) p.tag (slot X p.box) τ H = cV (aggT X.P t) (aggV (szOf X.P t) (rangeL (szOf X.P t) p.off (slot X p.box τ).a (slot X p.box τ).l)) (nthV p.off (slot X p.box τ).l) := by
          unfold pld
          rw [show bA (Nat.beq (slot X p.chk τ).t p.tag) (Nat.beq (slot X p.box τ).t 21) = true by rw [bA_true, beq_t, beq_t]; exact ⟨c1, c2⟩, cV_true]
        rw [e1]
        refine ⟨z, ?_, z2⟩
        rw [← k1] at z1
        exact v_run z1
    · rw [cT_eq] at h
      split at h
      · cases h
      · rename_i hty
        have := val_inj h; subst this
        have hty' : tyOk X.P t = true := by simpa using hty
        rw [ho] at hop
        have h0 : Ok (cT (aggT X.P t) (loadN (szOf X.P t)) load1 (cOpd X x τ) H) := hok
        obtain ⟨m, m1, m2, z, z1, z2⟩ := load_sound R.hH (hop x (by simp [Op.operands]) (load_ok h0)) hty' h0
        refine ⟨z, ?_, z2⟩
        refine v_run (s := Instr.loadAt t (a.eval x)) ?_
        rw [m2]
        exact z1
  · -- store
    split at h <;> cases h
  · -- nilCheck
    rename_i x ho
    have := val_inj h; subst this
    rw [exec_op _ ho]; rw [ho] at hop
    have h0 : Ok (nilH (cOpd X x τ)) := hok
    rcases nilH_ok h0 with q | q
    · have hv := hop x (by simp [Op.operands]) (ok3 q (by decide))
      obtain ⟨m, _, e1, _⟩ := hv.inv_ptr q
      have e2 : u1 nilH (cOpd X x) τ H = cOpd X x τ := by
        show nilH (cOpd X x τ) = _
        unfold nilH
        rw [show Nat.beq (cOpd X x τ).t 3 = true by rw [beq_t]; exact q, cV_true]
      rw [e2]
      refine ⟨a.eval x, ?_, hv⟩
      unfold execOp
      simp only [e1, Sem.run_pure]
    · have hv := hop x (by simp [Op.operands]) (ok3 q (by decide))
      obtain ⟨xs, ys, e1, _⟩ := hv.inv_fn q
      have e2 : u1 nilH (cOpd X x) τ H = cOpd X x τ := by
        show nilH (cOpd X x τ) = _
        unfold nilH
        rw [beq_f (show (cOpd X x τ).t ≠ 3 by omega), cV_false, show Nat.beq (cOpd X x τ).t 16 = true by rw [beq_t]; exact q, cV_true]
      rw [e2]
      refine ⟨a.eval x, ?_, hv⟩
      unfold execOp
      simp only [e1, Sem.run_pure]
  · -- binOp
    rename_i op t x y _ ho
    rw [exec_op _ ho]; rw [ho] at hop
    exact VOK.of (binCO_sound R (hop x (by simp [Op.operands])) (hop y (by simp [Op.operands])) h hok)
  · -- unOp
    rename_i op t x ho
    rw [exec_op _ ho]; rw [ho] at hop
    exact VOK.of (unCO_sound (hop x (by simp [Op.operands])) h hok)
  · -- convert
    rename_i s t x ho
    rw [exec_op _ ho]; rw [ho] at hop
    exact VOK.of (convCO_sound R (hop x (by simp [Op.operands])) h hok)
  · -- makeInterface
    rename_i t x ho
    rw [exec_op _ ho]; rw [ho] at hop
    rw [cT_eq] at h
    split at h
    · cases h
    · rename_i hi
      have := val_inj h; subst this
      have h0 : Ok (ifcH t (cOpd X x τ)) := hok
      exact VOK.of (ifcH_sound (by simpa using hi) (hop x (by simp [Op.operands]) (ifcH_ok h0)) h0)
  · -- makeFunc
    rename_i fn l m ho
    have := val_inj h; subst this
    rw [exec_op _ ho]
    have h0 : Ok (fnV fn (evals (l.toList.map (cOpd X)) τ) (evals (m.toList.map (cOpd X)) τ)) := hok
    have h1 := h0
    unfold fnV at h1
    rw [ok_cV, bA_true] at h1
    have e1 : mkFn fn (evals (l.toList.map (cOpd X))) (evals (m.toList.map (cOpd X))) τ H = vFn fn (evals (l.toList.map (cOpd X)) τ) (evals (m.toList.map (cOpd X)) τ) := by
      show fnV fn _ _ = _
      unfold fnV
      rw [show bA _ _ = true by rw [bA_true]; exact h1.1, cV_true]
    rw [e1]
    have hl := opds_rel (os := l.toList) R.hF R.hG (fun x hx t e => hU x (by rw [ho]; simp [Op.operands]; exact .inl (by simpa using hx)) t e) h1.1.1
    have hm := opds_rel (os := m.toList) R.hF R.hG (fun x hx t e => hU x (by rw [ho]; simp [Op.operands]; exact .inr (by simpa using hx)) t e) h1.1.2
    refine ⟨.func (.func fn) (l.map a.eval) (m.map a.eval), rfl, ?_⟩
    have := VR.of_fn (f := fn) hl hm
    have el : (⟨l.toList.map a.eval⟩ : Array Value) = l.map a.eval := by apply Array.ext'; simp
    have em : (⟨m.toList.map a.eval⟩ : Array Value) = m.map a.eval := by apply Array.ext'; simp
    rw [el, em] at this
    exact this
  · cases h
  · -- makeSlice
    unfold mkSliceCO at h
    split at h
    · cases h
    · split at h <;> cases h
  · -- slice
    rename_i t x lo hi mx ho
    rw [exec_op _ ho]; rw [ho] at hop
    exact VOK.of (slCO_sound R (hop x (by simp [Op.operands])) (fun y e => hop y (by simp [Op.operands, e])) (fun y e => hop y (by simp [Op.operands, e])) (fun y e => hop y (by simp [Op.operands, e])) h hok)
  · -- fieldAddr
    rename_i t x i ho
    split at h
    · split at h
      · rw [cT_eq] at h
        split at h <;> cases h
      · cases h
    · rw [exec_op _ ho]; rw [ho] at hop
      unfold faCO at h
      split at h
      · rename_i f hf
        rw [cT_eq] at h
        split at h
        · cases h
        · rename_i hz
          have := val_inj h; subst this
          have h0 : Ok (faH f.offset (cOpd X x τ)) := hok
          exact VOK.of (fa_sound hf (fun e => hz (by rw [beq_t]; exact e)) (hop x (by simp [Op.operands]) (faH_ok h0)) h0)
      · cases h
  · -- field
    rename_i t x i ho
    rw [exec_op _ ho]; rw [ho] at hop
    unfold fldCO at h
    split at h
    · rename_i f hf
      rw [cT_eq] at h
      split at h
      · rename_i ht
        have := val_inj h; subst this
        have h0 : Ok (fldH (aggT X.P f.type) (szOf X.P f.type) f.offset (cOpd X x τ)) := hok
        exact VOK.of (fld_sound hf ht (hop x (by simp [Op.operands]) (fldH_ok h0)) h0)
      · cases h
    · cases h
  · -- indexAddr
    rename_i t x i ho
    rw [exec_op _ ho]; rw [ho] at hop
    unfold ixaCO at h
    split at h
    · rename_i e ht
      rw [cT_eq] at h
      split at h
      · rename_i he
        have := val_inj h; subst this
        have h0 : Ok (ixS (szOf X.P e) (cOpd X x τ) (cOpd X i τ)) := hok
        obtain ⟨o1, o2⟩ := ixS_ok h0
        exact VOK.of (ixS_sound ht he (hop x (by simp [Op.operands]) o1) (hop i (by simp [Op.operands]) o2) h0)
      · cases h
    · rename_i m e ht
      rw [cT_eq] at h
      split at h
      · rename_i he
        have := val_inj h; subst this
        have h0 : Ok (ixA (szOf X.P e) m (cOpd X x τ) (cOpd X i τ)) := hok
        obtain ⟨o1, o2⟩ := ixA_ok h0
        exact VOK.of (ixA_sound ht he (hop x (by simp [Op.operands]) o1) (hop i (by simp [Op.operands]) o2) h0)
      · cases h
    · cases h
  · -- index
    rename_i t x i ho
    rw [exec_op _ ho]; rw [ho] at hop
    unfold ixCO at h
    split at h
    · rename_i ht
      have := val_inj h; subst this
      have h0 : Ok (ixStr (cOpd X x τ) (cOpd X i τ)) := hok
      obtain ⟨o1, o2⟩ := ixStr_ok h0
      exact VOK.of (ixStr_sound ht (hop x (by simp [Op.operands]) o1) (hop i (by simp [Op.operands]) o2) h0)
    · rename_i m e ht
      rw [cT_eq] at h
      split at h
      · rename_i he
        have := val_inj h; subst this
        have h0 : Ok (ixArr (aggT X.P e) (szOf X.P e) m (cOpd X x τ) (cOpd X i τ)) := hok
        obtain ⟨o1, o2⟩ := ixArr_ok h0
        exact VOK.of (ixArr_sound ht he (hop x (by simp [Op.operands]) o1) (hop i (by simp [Op.operands]) o2) h0)
      · cases h
    · cases h
  · -- lookup
    rename_i t x i ok ho
    rw [exec_op _ ho]; rw [ho] at hop
    unfold lookCO at h
    split at h
    · rename_i k' e hk
      rw [cT_eq] at h
      split at h
      · rename_i hz
        have := val_inj h; subst this
        have h0 : Ok (lookH (zeroA X.P e) ok (keyTag X.P k') (cOpd X x τ) (cOpd X i τ) H) := hok
        obtain ⟨_, d, q1, q2⟩ := plainKey_inv hk
        obtain ⟨o1, o2⟩ := lookH_ok q1 q2 h0
        exact VOK.of (lookH_sound hk (by rw [ble_t] at hz; exact hz) R.hH (hop x (by simp [Op.operands]) o1) (hop i (by simp [Op.operands]) o2) h0)
      · cases h
    · cases h
  · unfold mupdCO at h; split at h <;> cases h
  · unfold mupdCO at h; split at h <;> cases h
  · split at h <;> cases h
  · cases h
  · -- entry
    rename_i x ho
    have := val_inj h; subst this
    rw [exec_op _ ho]; rw [ho] at hop
    have h0 : Ok (entryH (cOpd X x τ) H) := hok
    exact VOK.of (entryH_sound R.hH (hop x (by simp [Op.operands]) (entryH_ok h0)) h0)
  · -- typeAssert
    rename_i x xt t ok ho
    rw [exec_op _ ho]; rw [ho] at hop
    unfold asCO at h
    rw [cT_eq] at h
    split at h
    · cases h
    · rename_i hi
      rw [cT_eq] at h
      split at h
      · rename_i hz
        have := val_inj h; subst this
        have h0 : Ok (asH (zeroA X.P t) t ok (cOpd X x τ)) := hok
        exact VOK.of (asH_sound (by simpa using hi) (by rw [ble_t] at hz; exact hz) (hop x (by simp [Op.operands]) (asH_ok h0)) h0)
      · cases h
  · -- extract
    rename_i x i ho
    have := val_inj h; subst this
    rw [exec_op _ ho]; rw [ho] at hop
    have h0 : Ok (extH i (cOpd X x τ)) := hok
    exact VOK.of (extH_sound (hop x (by simp [Op.operands]) (extH_ok h0)) h0)
  · -- call
    rename_i c ho
    split at h
    · rename_i b hc
      rw [exec_builtin _ ho hc]
      rw [ho] at hop
      exact builtin_val R (fun y hy => hop y (by simp [Op.operands, Call.operands, hc]; simpa using hy)) h hok
    · cases h
  · cases h
end
end Go.Ev

/-! Proofs, part 21: what a compiled operation does: new blocks, effects, boxes. -/
namespace Go.Ev
set_option linter.unusedVariables false
set_option linter.unusedSimpArgs false
/-- what has been done, by an operation -/
def EffN (ro : Nat) (μ : Mu) (H : Heap) (w : World) (r : Result Next) (k : KR) : Prop :=
  ∃ x w' μ' H' v, (r = .ok (.value x) w' ∨ r = .ok .skip w' ∧ x = undef) ∧ HR μ' H' w' ∧ Ext ro μ H w μ' H' w' ∧ VR μ' v x ∧ k v H' = .done
section
variable {X : Cx} {env : List Ad} {base : Nat} {U : Nat → Prop} {μ : Mu} {w : World} {H : Heap} {τ : QT X.d} {a : Act} {o : Oper} {P : Program}

theorem EffN.of {ro : Nat} {s : Sem Value} {k : KR} (h : EffOK ro μ H w (s.run P w) k) : EffN ro μ H w ((do pure (Next.value (← s)) : Sem Next).run P w) k := by
  obtain ⟨x, w', μ', H', v, h1, h2, h3, h4, h5⟩ := h
  exact ⟨x, w', μ', H', v, .inl (v_run h1), h2, h3, h4, h5⟩
theorem EffN.ofU {ro : Nat} {s : Sem Unit} {k : KR} (h : ∃ H' w', s.run P w = .ok () w' ∧ HR μ H' w' ∧ Ext ro μ H w μ H' w' ∧ k undefA H' = .done) : EffN ro μ H w ((do s; pure Next.skip : Sem Next).run P w) k := by
  obtain ⟨H', w', h1, h2, h3, h4⟩ := h
  exact ⟨undef, w', μ, H', undefA, .inr ⟨u_run h1, rfl⟩, h2, h3, .undef, h4⟩
theorem new_inj {d : Nat} {f f' : QT d → AB} {mk mk' : Nat → AV} (h : CO.new f mk = .new f' mk') : f' = f ∧ mk' = mk := by injection h with h1 h2; exact ⟨h1.symm, h2.symm⟩
theorem eff_inj {d : Nat} {f f' : QT d → Heap → KR → Ans} (h : CO.eff f = .eff f') : f' = f := by injection h with h; exact h.symm
theorem bslice_rel {len : Nat} : ∀ {ps : List (Nat × Operand)}, (ps.all fun p => Nat.ble (Nat.succ p.1) len) = true → (∀ p ∈ ps, Ok (cOpd X p.2 τ) → VR μ (cOpd X p.2 τ) (a.eval p.2)) →
    EtR μ τ len (ps.map fun p => ⟨p.1, cOpd X p.2⟩) (ps.map fun p => (p.1, a.eval p.2))
  | [], _, _ => .nil
  | p :: ps, h, hv => by
    rw [List.all_cons, Bool.and_eq_true, ble_t] at h
    exact .cons (p := ⟨p.1, cOpd X p.2⟩) h.1 (hv p (by simp)) (bslice_rel h.2 fun q hq => hv q (by simp [hq]))
/-! ### the kind of a compiled operation -/
def kd {d : Nat} : CO d → Nat
  | .bad _ => 0
  | .val _ _ => 1
  | .new _ _ => 2
  | .eff _ => 3
  | .pnew _ => 4
  | .pst _ _ => 5
  | .adr _ _ => 6
theorem kd_cT {d : Nat} {b : Bool} {x y : CO d} {p : Nat → Prop} (hx : p (kd x)) (hy : p (kd y)) : p (kd (cT b x y)) := by cases b <;> assumption
theorem kd_build {t : TypeId} {ps : List (Nat × Operand)} : kd (buildCO X t ps) ≤ 1 := by
  unfold buildCO
  refine kd_cT (p := (· ≤ 1)) (by simp [kd]) (kd_cT (p := (· ≤ 1)) ?_ (by simp [kd]))
  split
  · refine kd_cT (p := (· ≤ 1)) ?_ (by simp [kd])
    split <;> simp [kd]
  · refine kd_cT (p := (· ≤ 1)) ?_ (by simp [kd])
    split <;> simp [kd]
  · simp [kd]
theorem kd_eqC {h : AV → AV → Nat} {neg : Bool} {x y : QT X.d → AV} : kd (eqC (d := X.d) h neg x y) ≤ 1 := by simp [eqC, kd]
theorem kd_eqR {h : AV → AV → Heap → Nat} {neg : Bool} {x y : QT X.d → AV} : kd (eqR (d := X.d) h neg x y) ≤ 1 := by simp [eqR, kd]
theorem kd_eq {neg : Bool} {t : TypeId} {x y : Operand} : kd (eqCO X neg t x y) ≤ 1 := by
  unfold eqCO
  split
  · exact kd_eqC
  · exact kd_cT (p := (· ≤ 1)) (by simp [kd]) kd_eqR
  · exact kd_eqC
  · exact kd_eqC
  · exact kd_eqC
  · exact kd_eqC
  · simp [kd]
theorem kd_bin {op : BinOp} {t : TypeId} {x y : Operand} : kd (binCO X op t x y) ≤ 1 := by
  unfold binCO
  split
  · cases op <;> simp [kd]
  · simp [kd]
  · split
    · exact kd_eq
    · exact kd_eq
    · simp [kd]
theorem kd_un {op : UnOp} {t : TypeId} {x : Operand} : kd (unCO X op t x) ≤ 1 := by
  unfold unCO
  repeat' split
  all_goals simp [kd]
theorem kd_conv {s t : TypeId} {x : Operand} : kd (convCO X s t x) ≤ 1 ∨ kd (convCO X s t x) = 3 := by
  unfold convCO
  repeat' split
  all_goals simp [kd]
theorem kd_sl {t : TypeId} {x : Operand} {lo hi mx : Option Operand} : kd (slCO X t x lo hi mx) ≤ 1 := by
  unfold slCO
  refine kd_cT (p := (· ≤ 1)) (by simp [kd]) ?_
  split
  · split <;> simp [kd]
  · exact kd_cT (p := (· ≤ 1)) (by simp [kd]) (by simp [kd])
  · exact kd_cT (p := (· ≤ 1)) (by simp [kd]) (by simp [kd])
  · simp [kd]
theorem kd_fa {t : TypeId} {x : Operand} {i : Nat} : kd (faCO X t x i) ≤ 1 := by
  unfold faCO
  split
  · exact kd_cT (p := (· ≤ 1)) (by simp [kd]) (by simp [kd])
  · simp [kd]
theorem kd_fld {t : TypeId} {x : Operand} {i : Nat} : kd (fldCO X t x i) ≤ 1 := by
  unfold fldCO
  split
  · exact kd_cT (p := (· ≤ 1)) (by simp [kd]) (by simp [kd])
  · simp [kd]
theorem kd_ixa {t : TypeId} {x i : Operand} : kd (ixaCO X t x i) ≤ 1 := by
  unfold ixaCO
  split
  · exact kd_cT (p := (· ≤ 1)) (by simp [kd]) (by simp [kd])
  · exact kd_cT (p := (· ≤ 1)) (by simp [kd]) (by simp [kd])
  · simp [kd]
theorem kd_ix {t : TypeId} {x i : Operand} : kd (ixCO X t x i) ≤ 1 := by
  unfold ixCO
  split
  · simp [kd]
  · exact kd_cT (p := (· ≤ 1)) (by simp [kd]) (by simp [kd])
  · simp [kd]
theorem kd_look {t : TypeId} {x i : Operand} {ok : Bool} : kd (lookCO X t x i ok) ≤ 1 := by
  unfold lookCO
  split
  · exact kd_cT (p := (· ≤ 1)) (by simp [kd]) (by simp [kd])
  · simp [kd]
theorem kd_as {x : Operand} {t : TypeId} {ok : Bool} : kd (asCO X x t ok) ≤ 1 := by
  unfold asCO
  exact kd_cT (p := (· ≤ 1)) (by simp [kd]) (kd_cT (p := (· ≤ 1)) (by simp [kd]) (by simp [kd]))
theorem kd_mupd {t : TypeId} {m k v : Operand} : kd (mupdCO X t m k v) = 0 ∨ kd (mupdCO X t m k v) = 3 := by
  unfold mupdCO
  split <;> simp [kd]
theorem kd_mksl {t : TypeId} {m k : Operand} : kd (mkSliceCO X t m k) = 0 ∨ kd (mkSliceCO X t m k) = 3 := by
  unfold mkSliceCO
  repeat' split
  all_goals simp [kd]
theorem kd_bsl {t : TypeId} {n : Nat} {ps : List (Nat × Operand)} : kd (bsliceCO X t n ps) = 0 ∨ kd (bsliceCO X t n ps) = 2 := by
  unfold bsliceCO
  split
  · simp [kd]
  · split
    · simp [kd]
    · exact kd_cT (p := fun k => k = 0 ∨ k = 2) (by simp [kd]) (by simp [kd])
theorem kd_len {t : TypeId} {x : Operand} : kd (lenCO X t x) ≤ 1 := by
  unfold lenCO
  repeat' split
  all_goals simp [kd]
theorem kd_bi {b : Builtin} {ats : List TypeId} {xs : List Operand} : kd (builtinCO X b ats xs) ≤ 1 ∨ kd (builtinCO X b ats xs) = 3 := by
  unfold builtinCO
  split
  · exact .inl kd_len
  all_goals (repeat' split)
  all_goals simp [kd]
/-- which operations make a block, do something, make or use a box -/
theorem cCO_new {f : QT X.d → AB} {mk : Nat → AV} (h : cCO X env o = .new f mk) :
    (∃ t z cs, o.op = .alloc t ∧ zeroCs X.P t = some (z, cs) ∧ f = b0 (bRow z cs) ∧ mk = mkP) ∨ (∃ e x, o.op = .box e x ∧ f = b1 boxB (cOpd X x) ∧ mk = mkP) ∨
    (∃ t n ps, o.op = .buildSlice t n ps ∧ bsliceCO X t n ps.toList = .new f mk) ∨ (∃ t, o.op = .makeMap t none ∧ f = b0 (bX (.map [] 0)) ∧ mk = vMap) := by
  have kk : ∀ co : CO X.d, co = .new f mk → kd co = 2 := fun co e => by rw [e]; rfl
  rw [cCO_eq] at h
  unfold cCOs at h
  cases hop : o.op with
  | move x =>
    rw [hop] at h
    try simp only at h
    cases h
  | assign x =>
    rw [hop] at h
    try simp only at h
    cases h
  | pick a b c =>
    rw [hop] at h
    try simp only at h
    cases h
  | alloc t =>
    rw [hop] at h
    try simp only at h
    split at h
    · rename_i z cs hz
      split at h
      · rw [cT_eq] at h
        split at h
        · rw [cT_eq] at h
          split at h <;> cases h
        · obtain ⟨rfl, rfl⟩ := new_inj h
          exact .inl ⟨t, z, cs, rfl, hz, rfl, rfl⟩
      · cases h
    · cases h
  | box t x =>
    rw [hop] at h
    try simp only at h
    split at h
    · rw [cT_eq] at h
      split at h
      · rw [cT_eq] at h
        split at h <;> cases h
      · obtain ⟨rfl, rfl⟩ := new_inj h
        exact .inr (.inl ⟨t, x, rfl, rfl, rfl⟩)
    · cases h
  | build t ps =>
    rw [hop] at h
    try simp only at h
    have h1 := kk _ h
    exact absurd (h1 ▸ kd_build : 2 ≤ 1) (by decide)
  | buildSlice t n ps =>
    rw [hop] at h
    try simp only at h
    exact .inr (.inr (.inl ⟨t, n, ps, rfl, h⟩))
  | load t x =>
    rw [hop] at h
    try simp only at h
    split at h <;> (rw [cT_eq] at h; split at h <;> cases h)
  | store t x y =>
    rw [hop] at h
    try simp only at h
    split at h <;> cases h
  | nilCheck x =>
    rw [hop] at h
    try simp only at h
    cases h
  | binOp op t x y z =>
    rw [hop] at h
    try simp only at h
    have h1 := kk _ h
    exact absurd (h1 ▸ kd_bin : 2 ≤ 1) (by decide)
  | unOp op t x =>
    rw [hop] at h
    try simp only at h
    have h1 := kk _ h
    exact absurd (h1 ▸ kd_un : 2 ≤ 1) (by decide)
  | convert s t x =>
    rw [hop] at h
    try simp only at h
    have h1 := kk _ h
    have h2 := @kd_conv X s t x
    rw [h1] at h2
    exact absurd h2 (by decide)
  | makeInterface t x =>
    rw [hop] at h
    try simp only at h
    rw [cT_eq] at h
    split at h <;> cases h
  | makeFunc fn l m =>
    rw [hop] at h
    try simp only at h
    cases fn <;> cases h
  | makeMap t r =>
    rw [hop] at h
    try simp only at h
    cases r with
    | none =>
      obtain ⟨rfl, rfl⟩ := new_inj h
      exact .inr (.inr (.inr ⟨t, rfl, rfl, rfl⟩))
    | some _ => cases h
  | makeSlice t l c =>
    rw [hop] at h
    try simp only at h
    have h1 := kk _ h
    have h2 := @kd_mksl X t l c
    rw [h1] at h2
    exact absurd h2 (by decide)
  | slice t x lo hi mx =>
    rw [hop] at h
    try simp only at h
    have h1 := kk _ h
    exact absurd (h1 ▸ kd_sl : 2 ≤ 1) (by decide)
  | fieldAddr t x i =>
    rw [hop] at h
    try simp only at h
    split at h
    · split at h
      · rw [cT_eq] at h
        split at h <;> cases h
      · cases h
    · have h1 := kk _ h
      exact absurd (h1 ▸ kd_fa : 2 ≤ 1) (by decide)
  | field t x i =>
    rw [hop] at h
    try simp only at h
    have h1 := kk _ h
    exact absurd (h1 ▸ kd_fld : 2 ≤ 1) (by decide)
  | indexAddr t x i =>
    rw [hop] at h
    try simp only at h
    have h1 := kk _ h
    exact absurd (h1 ▸ kd_ixa : 2 ≤ 1) (by decide)
  | index t x i =>
    rw [hop] at h
    try simp only at h
    have h1 := kk _ h
    exact absurd (h1 ▸ kd_ix : 2 ≤ 1) (by decide)
  | lookup t x i ok =>
    rw [hop] at h
    try simp only at h
    have h1 := kk _ h
    exact absurd (h1 ▸ kd_look : 2 ≤ 1) (by decide)
  | mapUpdate t m k v =>
    rw [hop] at h
    try simp only at h
    have h1 := kk _ h
    have h2 := @kd_mupd X t m k v
    rw [h1] at h2
    exact absurd h2 (by decide)
  | insert t m k v =>
    rw [hop] at h
    try simp only at h
    have h1 := kk _ h
    have h2 := @kd_mupd X t m k v
    rw [h1] at h2
    exact absurd h2 (by decide)
  | range t x =>
    rw [hop] at h
    try simp only at h
    split at h <;> cases h
  | next x i =>
    rw [hop] at h
    try simp only at h
    cases h
  | entry x =>
    rw [hop] at h
    try simp only at h
    cases h
  | typeAssert x t u ok =>
    rw [hop] at h
    try simp only at h
    have h1 := kk _ h
    exact absurd (h1 ▸ kd_as : 2 ≤ 1) (by decide)
  | extract x i =>
    rw [hop] at h
    try simp only at h
    cases h
  | call c =>
    rw [hop] at h
    try simp only at h
    split at h
    · rename_i b hb
      have h1 := kk _ h
      have h2 := @kd_bi X b c.argTypes.toList c.args.toList
      rw [h1] at h2
      exact absurd h2 (by decide)
    · cases h
  | _ => rw [hop] at h; cases h
end
end Go.Ev

/-! Proofs, part 22: what a compiled operation does: new blocks, effects, boxes (2). -/
namespace Go.Ev
set_option linter.unusedVariables false
set_option linter.unusedSimpArgs false
section
variable {X : Cx} {env : List Ad} {base : Nat} {U : Nat → Prop} {μ : Mu} {w : World} {H : Heap} {τ : QT X.d} {a : Act} {o : Oper} {P : Program}

theorem exec_bsl {t : TypeId} {len : Nat} {ps : Array (Nat × Operand)} (ρ : Operand → Value) (ho : o.op = .buildSlice t len ps) :
    execOp ρ o = (do pure (Next.value (← Instr.buildSlice t len (ps.map fun (i, x) => (i, ρ x)))) : Sem Next) := by
  unfold execOp; rw [ho]
/-- an operation that makes a block -/
theorem new_sound {f : QT X.d → AB} {mk : Nat → AV} (R : RelU X env base U μ H w τ a) (hU : UsesOk U o) (h : cCO X env o = .new f mk) (hok : (f τ).t ≠ 0) :
    ∃ x ob m, (execOp a.eval o).run X.P w = .ok (.value x) (w.alloc ob) ∧ NewR μ w (f τ) mk x ob m := by
  have hop : ∀ x ∈ o.op.operands.toList, Ok (cOpd X x τ) → VR μ (cOpd X x τ) (a.eval x) := fun x hx hok => R.opd hU hx hok
  rcases cCO_new h with ⟨t, z, cs, ho, hz, rfl, rfl⟩ | ⟨e, x, ho, rfl, rfl⟩ | ⟨t, len, ps, ho, h⟩ | ⟨t, ho, rfl, rfl⟩
  · rw [exec_op _ ho]
    obtain ⟨x, ob, m, h1, h2⟩ := alloc_sound (μ := μ) (w := w) hz
    exact ⟨x, ob, m, v_run h1, h2⟩
  · rw [exec_op _ ho]; rw [ho] at hop
    have h0 : (boxB (cOpd X x τ)).t ≠ 0 := hok
    have hx : Ok (cOpd X x τ) := by
      unfold boxB at h0
      rw [cT_eq] at h0
      split at h0
      · rename_i hc; exact cellsOk_ok hc
      · exact absurd rfl h0
    obtain ⟨z, ob, m, h1, h2⟩ := box_sound (P := X.P) (w := w) (e := e) (hop x (by simp [Op.operands]) hx) h0
    exact ⟨z, ob, m, v_run h1, h2⟩
  · unfold bsliceCO at h
    split at h
    · cases h
    · rename_i e he
      split at h
      · cases h
      · rename_i s zs hz
        rw [cT_eq] at h
        split at h
        · rename_i hc
          rw [bA_true, ble_t, Nat.mul_eq] at hc
          obtain ⟨hc1, hc2⟩ := hc
          obtain ⟨rfl, rfl⟩ := new_inj h
          rw [exec_bsl _ ho]; rw [ho] at hop
          have hu : X.P.underlying t = some (.slice e) := by
            unfold elemOfSlice at he
            split at he
            · rename_i e' hu'; cases he; exact hu'
            · cases he
          have hr := bslice_rel (μ := μ) (τ := τ) (a := a) hc1 (fun p hp => hop p.2 (by simp [Op.operands]; exact ⟨p.1, by simpa using hp⟩))
          have hok' : (bsliceB s len zs (ps.toList.map fun p => (⟨p.1, cOpd X p.2⟩ : Et X.d)) τ).t ≠ 0 := hok
          clear hok
          have hbs := @bslice_sound μ X.P w X.d t e s len zs _ τ _ hu hz hc2 hr
          have hbs' := hbs hok'
          clear hbs hok' hr
          obtain ⟨z, ob, m, h1, h2⟩ := hbs'
          refine ⟨z, ob, m, ?_, h2⟩
          have hps : (ps.map fun ((i, x) : Nat × Operand) => (i, a.eval x)) = ⟨ps.toList.map fun p => (p.1, a.eval p.2)⟩ := by
            apply Array.ext'
            simp
          rw [hps]
          exact v_run h1
        · cases h
  · rw [exec_op _ ho]
    obtain ⟨z, ob, m, h1, h2⟩ := makeMap_sound (μ := μ) (P := X.P) (w := w) (t := t)
    exact ⟨z, ob, m, v_run h1, h2⟩
theorem cCO_eff {f : QT X.d → Heap → KR → Ans} (h : cCO X env o = .eff f) :
    (∃ t x v, o.op = .store t x v ∧ cAdr X env x = none ∧ f = e2 (storeH X.ro (szOf X.P t)) (cOpd X x) (cOpd X v)) ∨ (∃ t l c, o.op = .makeSlice t l c ∧ mkSliceCO X t l c = .eff f) ∨
    (∃ t m k v, (o.op = .mapUpdate t m k v ∨ o.op = .insert t m k v) ∧ mupdCO X t m k v = .eff f) ∨
    (∃ t x, o.op = .range t x ∧ ((X.P.underlying t = some .string ∧ f = e1 rangeS (cOpd X x)) ∨ (∃ k e, X.P.underlying t = some (.map k e) ∧ f = e1 rangeM (cOpd X x)))) ∨
    (∃ x b, o.op = .next x b ∧ f = e1 (nextH b) (cOpd X x)) ∨ (∃ s t x, o.op = .convert s t x ∧ convCO X s t x = .eff f) ∨
    (∃ c b, o.op = .call c ∧ c.callee = .builtin b ∧ builtinCO X b c.argTypes.toList c.args.toList = .eff f) := by
  have kk : ∀ co : CO X.d, co = .eff f → kd co = 3 := fun co e => by rw [e]; rfl
  rw [cCO_eq] at h
  unfold cCOs at h
  cases hop : o.op with
  | move x =>
    rw [hop] at h
    try simp only at h
    cases h
  | assign x =>
    rw [hop] at h
    try simp only at h
    cases h
  | pick a b c =>
    rw [hop] at h
    try simp only at h
    cases h
  | alloc t =>
    rw [hop] at h
    try simp only at h
    repeat' split at h
    all_goals first | (cases h; done) | (rw [cT_eq] at h; split at h <;> first | (cases h; done) | (rw [cT_eq] at h; split at h <;> cases h))
  | box t x =>
    rw [hop] at h
    try simp only at h
    repeat' split at h
    all_goals first | (cases h; done) | (rw [cT_eq] at h; split at h <;> first | (cases h; done) | (rw [cT_eq] at h; split at h <;> cases h))
  | build t ps =>
    rw [hop] at h
    try simp only at h
    have h1 := kk _ h
    exact absurd (h1 ▸ kd_build : 3 ≤ 1) (by decide)
  | buildSlice t n ps =>
    rw [hop] at h
    try simp only at h
    have h1 := kk _ h
    have h2 := @kd_bsl X t n ps.toList
    rw [h1] at h2
    exact absurd h2 (by decide)
  | load t x =>
    rw [hop] at h
    try simp only at h
    split at h <;> (rw [cT_eq] at h; split at h <;> cases h)
  | store t x y =>
    rw [hop] at h
    try simp only at h
    split at h
    · cases h
    · rename_i hn
      have := eff_inj h; subst this
      exact .inl ⟨t, x, y, rfl, hn, rfl⟩
  | nilCheck x =>
    rw [hop] at h
    try simp only at h
    cases h
  | binOp op t x y z =>
    rw [hop] at h
    try simp only at h
    have h1 := kk _ h
    exact absurd (h1 ▸ kd_bin : 3 ≤ 1) (by decide)
  | unOp op t x =>
    rw [hop] at h
    try simp only at h
    have h1 := kk _ h
    exact absurd (h1 ▸ kd_un : 3 ≤ 1) (by decide)
  | convert s t x =>
    rw [hop] at h
    try simp only at h
    exact .inr (.inr (.inr (.inr (.inr (.inl ⟨s, t, x, rfl, h⟩)))))
  | makeInterface t x =>
    rw [hop] at h
    try simp only at h
    rw [cT_eq] at h
    split at h <;> cases h
  | makeFunc fn l m =>
    rw [hop] at h
    try simp only at h
    cases fn <;> cases h
  | makeMap t r =>
    rw [hop] at h
    try simp only at h
    cases r <;> cases h
  | makeSlice t l c =>
    rw [hop] at h
    try simp only at h
    exact .inr (.inl ⟨t, l, c, rfl, h⟩)
  | slice t x lo hi mx =>
    rw [hop] at h
    try simp only at h
    have h1 := kk _ h
    exact absurd (h1 ▸ kd_sl : 3 ≤ 1) (by decide)
  | fieldAddr t x i =>
    rw [hop] at h
    try simp only at h
    split at h
    · split at h
      · rw [cT_eq] at h
        split at h <;> cases h
      · cases h
    · have h1 := kk _ h
      exact absurd (h1 ▸ kd_fa : 3 ≤ 1) (by decide)
  | field t x i =>
    rw [hop] at h
    try simp only at h
    have h1 := kk _ h
    exact absurd (h1 ▸ kd_fld : 3 ≤ 1) (by decide)
  | indexAddr t x i =>
    rw [hop] at h
    try simp only at h
    have h1 := kk _ h
    exact absurd (h1 ▸ kd_ixa : 3 ≤ 1) (by decide)
  | index t x i =>
    rw [hop] at h
    try simp only at h
    have h1 := kk _ h
    exact absurd (h1 ▸ kd_ix : 3 ≤ 1) (by decide)
  | lookup t x i ok =>
    rw [hop] at h
    try simp only at h
    have h1 := kk _ h
    exact absurd (h1 ▸ kd_look : 3 ≤ 1) (by decide)
  | mapUpdate t m k v =>
    rw [hop] at h
    try simp only at h
    exact .inr (.inr (.inl ⟨t, m, k, v, .inl rfl, h⟩))
  | insert t m k v =>
    rw [hop] at h
    try simp only at h
    exact .inr (.inr (.inl ⟨t, m, k, v, .inr rfl, h⟩))
  | range t x =>
    rw [hop] at h
    try simp only at h
    split at h
    · rename_i ht
      have := eff_inj h; subst this
      exact .inr (.inr (.inr (.inl ⟨t, x, rfl, .inl ⟨ht, rfl⟩⟩)))
    · rename_i ht
      have := eff_inj h; subst this
      exact .inr (.inr (.inr (.inl ⟨t, x, rfl, .inr ⟨_, _, ht, rfl⟩⟩)))
    · cases h
  | next x i =>
    rw [hop] at h
    try simp only at h
    have := eff_inj h; subst this
    exact .inr (.inr (.inr (.inr (.inl ⟨x, i, rfl, rfl⟩))))
  | entry x =>
    rw [hop] at h
    try simp only at h
    cases h
  | typeAssert x t u ok =>
    rw [hop] at h
    try simp only at h
    have h1 := kk _ h
    exact absurd (h1 ▸ kd_as : 3 ≤ 1) (by decide)
  | extract x i =>
    rw [hop] at h
    try simp only at h
    cases h
  | call c =>
    rw [hop] at h
    try simp only at h
    split at h
    · rename_i b hb
      exact .inr (.inr (.inr (.inr (.inr (.inr ⟨c, b, rfl, hb, h⟩)))))
    · cases h
  | _ => rw [hop] at h; cases h
theorem cCO_pnew {f : QT X.d → AV} (h : cCO X env o = .pnew f) :
    ∃ d, o.dst = some d ∧ X.pb.testBit d = true ∧ ((∃ t z cs, o.op = .alloc t ∧ zeroCs X.P t = some (z, cs) ∧ f = cnstG (pnewH z cs)) ∨ (∃ e x, o.op = .box e x ∧ f = fun τ => pboxH (cOpd X x τ))) := by
  have kk : ∀ co : CO X.d, co = .pnew f → kd co = 4 := fun co e => by rw [e]; rfl
  rw [cCO_eq] at h
  unfold cCOs at h
  cases hop : o.op with
  | move x =>
    rw [hop] at h
    try simp only at h
    cases h
  | assign x =>
    rw [hop] at h
    try simp only at h
    cases h
  | pick a b c =>
    rw [hop] at h
    try simp only at h
    cases h
  | alloc t =>
    rw [hop] at h
    try simp only at h
    split at h
    · rename_i z cs hz
      split at h
      · rename_i d hd
        rw [cT_eq] at h
        split at h
        · rename_i hb
          rw [cT_eq] at h
          split at h
          · injection h with h
            exact ⟨d, hd, hb, .inl ⟨t, z, cs, rfl, hz, h.symm⟩⟩
          · cases h
        · cases h
      · cases h
    · cases h
  | box t x =>
    rw [hop] at h
    try simp only at h
    split at h
    · rename_i d hd
      rw [cT_eq] at h
      split at h
      · rename_i hb
        rw [cT_eq] at h
        split at h
        · injection h with h
          exact ⟨d, hd, hb, .inr ⟨t, x, rfl, h.symm⟩⟩
        · cases h
      · cases h
    · cases h
  | build t ps =>
    rw [hop] at h
    try simp only at h
    have h1 := kk _ h
    exact absurd (h1 ▸ kd_build : 4 ≤ 1) (by decide)
  | buildSlice t n ps =>
    rw [hop] at h
    try simp only at h
    have h1 := kk _ h
    have h2 := @kd_bsl X t n ps.toList
    rw [h1] at h2
    exact absurd h2 (by decide)
  | load t x =>
    rw [hop] at h
    try simp only at h
    split at h <;> (rw [cT_eq] at h; split at h <;> cases h)
  | store t x y =>
    rw [hop] at h
    try simp only at h
    split at h <;> cases h
  | nilCheck x =>
    rw [hop] at h
    try simp only at h
    cases h
  | binOp op t x y z =>
    rw [hop] at h
    try simp only at h
    have h1 := kk _ h
    exact absurd (h1 ▸ kd_bin : 4 ≤ 1) (by decide)
  | unOp op t x =>
    rw [hop] at h
    try simp only at h
    have h1 := kk _ h
    exact absurd (h1 ▸ kd_un : 4 ≤ 1) (by decide)
  | convert s t x =>
    rw [hop] at h
    try simp only at h
    have h1 := kk _ h
    have h2 := @kd_conv X s t x
    rw [h1] at h2
    exact absurd h2 (by decide)
  | makeInterface t x =>
    rw [hop] at h
    try simp only at h
    rw [cT_eq] at h
    split at h <;> cases h
  | makeFunc fn l m =>
    rw [hop] at h
    try simp only at h
    cases fn <;> cases h
  | makeMap t r =>
    rw [hop] at h
    try simp only at h
    cases r <;> cases h
  | makeSlice t l c =>
    rw [hop] at h
    try simp only at h
    have h1 := kk _ h
    have h2 := @kd_mksl X t l c
    rw [h1] at h2
    exact absurd h2 (by decide)
  | slice t x lo hi mx =>
    rw [hop] at h
    try simp only at h
    have h1 := kk _ h
    exact absurd (h1 ▸ kd_sl : 4 ≤ 1) (by decide)
  | fieldAddr t x i =>
    rw [hop] at h
    try simp only at h
    split at h
    · split at h
      · rw [cT_eq] at h
        split at h <;> cases h
      · cases h
    · have h1 := kk _ h
      exact absurd (h1 ▸ kd_fa : 4 ≤ 1) (by decide)
  | field t x i =>
    rw [hop] at h
    try simp only at h
    have h1 := kk _ h
    exact absurd (h1 ▸ kd_fld : 4 ≤ 1) (by decide)
  | indexAddr t x i =>
    rw [hop] at h
    try simp only at h
    have h1 := kk _ h
    exact absurd (h1 ▸ kd_ixa : 4 ≤ 1) (by decide)
  | index t x i =>
    rw [hop] at h
    try simp only at h
    have h1 := kk _ h
    exact absurd (h1 ▸ kd_ix : 4 ≤ 1) (by decide)
  | lookup t x i ok =>
    rw [hop] at h
    try simp only at h
    have h1 := kk _ h
    exact absurd (h1 ▸ kd_look : 4 ≤ 1) (by decide)
  | mapUpdate t m k v =>
    rw [hop] at h
    try simp only at h
    have h1 := kk _ h
    have h2 := @kd_mupd X t m k v
    rw [h1] at h2
    exact absurd h2 (by decide)
  | insert t m k v =>
    rw [hop] at h
    try simp only at h
    have h1 := kk _ h
    have h2 := @kd_mupd X t m k v
    rw [h1] at h2
    exact absurd h2 (by decide)
  | range t x =>
    rw [hop] at h
    try simp only at h
    split at h <;> cases h
  | next x i =>
    rw [hop] at h
    try simp only at h
    cases h
  | entry x =>
    rw [hop] at h
    try simp only at h
    cases h
  | typeAssert x t u ok =>
    rw [hop] at h
    try simp only at h
    have h1 := kk _ h
    exact absurd (h1 ▸ kd_as : 4 ≤ 1) (by decide)
  | extract x i =>
    rw [hop] at h
    try simp only at h
    cases h
  | call c =>
    rw [hop] at h
    try simp only at h
    split at h
    · rename_i b hb
      have h1 := kk _ h
      have h2 := @kd_bi X b c.argTypes.toList c.args.toList
      rw [h1] at h2
      exact absurd h2 (by decide)
    · cases h
  | _ => rw [hop] at h; cases h
theorem cCO_pst {b : Nat} {f : QT X.d → AV} (h : cCO X env o = .pst b f) :
    ∃ t x v p, o.op = .store t x v ∧ cAdr X env x = some p ∧ b = p.box ∧ f = pstV (szOf X.P t) p.off (slot X p.chk) p.tag (slot X p.box) (cOpd X v) := by
  have kk : ∀ co : CO X.d, co = .pst b f → kd co = 5 := fun co e => by rw [e]; rfl
  rw [cCO_eq] at h
  unfold cCOs at h
  cases hop : o.op with
  | move x =>
    rw [hop] at h
    try simp only at h
    cases h
  | assign x =>
    rw [hop] at h
    try simp only at h
    cases h
  | pick a b c =>
    rw [hop] at h
    try simp only at h
    cases h
  | alloc t =>
    rw [hop] at h
    try simp only at h
    repeat' split at h
    all_goals first | (cases h; done) | (rw [cT_eq] at h; split at h <;> first | (cases h; done) | (rw [cT_eq] at h; split at h <;> cases h))
  | box t x =>
    rw [hop] at h
    try simp only at h
    repeat' split at h
    all_goals first | (cases h; done) | (rw [cT_eq] at h; split at h <;> first | (cases h; done) | (rw [cT_eq] at h; split at h <;> cases h))
  | build t ps =>
    rw [hop] at h
    try simp only at h
    have h1 := kk _ h
    exact absurd (h1 ▸ kd_build : 5 ≤ 1) (by decide)
  | buildSlice t n ps =>
    rw [hop] at h
    try simp only at h
    have h1 := kk _ h
    have h2 := @kd_bsl X t n ps.toList
    rw [h1] at h2
    exact absurd h2 (by decide)
  | load t x =>
    rw [hop] at h
    try simp only at h
    split at h <;> (rw [cT_eq] at h; split at h <;> cases h)
  | store t x y =>
    rw [hop] at h
    try simp only at h
    split at h
    · rename_i p hp
      injection h with h1 h2
      exact ⟨t, x, y, p, rfl, hp, h1.symm, h2.symm⟩
    · cases h
  | nilCheck x =>
    rw [hop] at h
    try simp only at h
    cases h
  | binOp op t x y z =>
    rw [hop] at h
    try simp only at h
    have h1 := kk _ h
    exact absurd (h1 ▸ kd_bin : 5 ≤ 1) (by decide)
  | unOp op t x =>
    rw [hop] at h
    try simp only at h
    have h1 := kk _ h
    exact absurd (h1 ▸ kd_un : 5 ≤ 1) (by decide)
  | convert s t x =>
    rw [hop] at h
    try simp only at h
    have h1 := kk _ h
    have h2 := @kd_conv X s t x
    rw [h1] at h2
    exact absurd h2 (by decide)
  | makeInterface t x =>
    rw [hop] at h
    try simp only at h
    rw [cT_eq] at h
    split at h <;> cases h
  | makeFunc fn l m =>
    rw [hop] at h
    try simp only at h
    cases fn <;> cases h
  | makeMap t r =>
    rw [hop] at h
    try simp only at h
    cases r <;> cases h
  | makeSlice t l c =>
    rw [hop] at h
    try simp only at h
    have h1 := kk _ h
    have h2 := @kd_mksl X t l c
    rw [h1] at h2
    exact absurd h2 (by decide)
  | slice t x lo hi mx =>
    rw [hop] at h
    try simp only at h
    have h1 := kk _ h
    exact absurd (h1 ▸ kd_sl : 5 ≤ 1) (by decide)
  | fieldAddr t x i =>
    rw [hop] at h
    try simp only at h
    split at h
    · split at h
      · rw [cT_eq] at h
        split at h <;> cases h
      · cases h
    · have h1 := kk _ h
      exact absurd (h1 ▸ kd_fa : 5 ≤ 1) (by decide)
  | field t x i =>
    rw [hop] at h
    try simp only at h
    have h1 := kk _ h
    exact absurd (h1 ▸ kd_fld : 5 ≤ 1) (by decide)
  | indexAddr t x i =>
    rw [hop] at h
    try simp only at h
    have h1 := kk _ h
    exact absurd (h1 ▸ kd_ixa : 5 ≤ 1) (by decide)
  | index t x i =>
    rw [hop] at h
    try simp only at h
    have h1 := kk _ h
    exact absurd (h1 ▸ kd_ix : 5 ≤ 1) (by decide)
  | lookup t x i ok =>
    rw [hop] at h
    try simp only at h
    have h1 := kk _ h
    exact absurd (h1 ▸ kd_look : 5 ≤ 1) (by decide)
  | mapUpdate t m k v =>
    rw [hop] at h
    try simp only at h
    have h1 := kk _ h
    have h2 := @kd_mupd X t m k v
    rw [h1] at h2
    exact absurd h2 (by decide)
  | insert t m k v =>
    rw [hop] at h
    try simp only at h
    have h1 := kk _ h
    have h2 := @kd_mupd X t m k v
    rw [h1] at h2
    exact absurd h2 (by decide)
  | range t x =>
    rw [hop] at h
    try simp only at h
    split at h <;> cases h
  | next x i =>
    rw [hop] at h
    try simp only at h
    cases h
  | entry x =>
    rw [hop] at h
    try simp only at h
    cases h
  | typeAssert x t u ok =>
    rw [hop] at h
    try simp only at h
    have h1 := kk _ h
    exact absurd (h1 ▸ kd_as : 5 ≤ 1) (by decide)
  | extract x i =>
    rw [hop] at h
    try simp only at h
    cases h
  | call c =>
    rw [hop] at h
    try simp only at h
    split at h
    · rename_i b hb
      have h1 := kk _ h
      have h2 := @kd_bi X b c.argTypes.toList c.args.toList
      rw [h1] at h2
      exact absurd h2 (by decide)
    · cases h
  | _ => rw [hop] at h; cases h
theorem cCO_adr {ad : Ad} {f : QT X.d → AV} (h : cCO X env o = .adr ad f) :
    ∃ t x i p fl d, o.op = .fieldAddr t x i ∧ cAdr X env x = some p ∧ fieldAt' X.P t i = some fl ∧ o.dst = some d ∧ szOf X.P fl.type ≠ 0 ∧ ad = ⟨d, p.box, p.off + fl.offset⟩ ∧ f = padr (slot X p.chk) p.tag := by
  have kk : ∀ co : CO X.d, co = .adr ad f → kd co = 6 := fun co e => by rw [e]; rfl
  rw [cCO_eq] at h
  unfold cCOs at h
  cases hop : o.op with
  | move x =>
    rw [hop] at h
    try simp only at h
    cases h
  | assign x =>
    rw [hop] at h
    try simp only at h
    cases h
  | pick a b c =>
    rw [hop] at h
    try simp only at h
    cases h
  | alloc t =>
    rw [hop] at h
    try simp only at h
    repeat' split at h
    all_goals first | (cases h; done) | (rw [cT_eq] at h; split at h <;> first | (cases h; done) | (rw [cT_eq] at h; split at h <;> cases h))
  | box t x =>
    rw [hop] at h
    try simp only at h
    repeat' split at h
    all_goals first | (cases h; done) | (rw [cT_eq] at h; split at h <;> first | (cases h; done) | (rw [cT_eq] at h; split at h <;> cases h))
  | build t ps =>
    rw [hop] at h
    try simp only at h
    have h1 := kk _ h
    exact absurd (h1 ▸ kd_build : 6 ≤ 1) (by decide)
  | buildSlice t n ps =>
    rw [hop] at h
    try simp only at h
    have h1 := kk _ h
    have h2 := @kd_bsl X t n ps.toList
    rw [h1] at h2
    exact absurd h2 (by decide)
  | load t x =>
    rw [hop] at h
    try simp only at h
    split at h <;> (rw [cT_eq] at h; split at h <;> cases h)
  | store t x y =>
    rw [hop] at h
    try simp only at h
    split at h <;> cases h
  | nilCheck x =>
    rw [hop] at h
    try simp only at h
    cases h
  | binOp op t x y z =>
    rw [hop] at h
    try simp only at h
    have h1 := kk _ h
    exact absurd (h1 ▸ kd_bin : 6 ≤ 1) (by decide)
  | unOp op t x =>
    rw [hop] at h
    try simp only at h
    have h1 := kk _ h
    exact absurd (h1 ▸ kd_un : 6 ≤ 1) (by decide)
  | convert s t x =>
    rw [hop] at h
    try simp only at h
    have h1 := kk _ h
    have h2 := @kd_conv X s t x
    rw [h1] at h2
    exact absurd h2 (by decide)
  | makeInterface t x =>
    rw [hop] at h
    try simp only at h
    rw [cT_eq] at h
    split at h <;> cases h
  | makeFunc fn l m =>
    rw [hop] at h
    try simp only at h
    cases fn <;> cases h
  | makeMap t r =>
    rw [hop] at h
    try simp only at h
    cases r <;> cases h
  | makeSlice t l c =>
    rw [hop] at h
    try simp only at h
    have h1 := kk _ h
    have h2 := @kd_mksl X t l c
    rw [h1] at h2
    exact absurd h2 (by decide)
  | slice t x lo hi mx =>
    rw [hop] at h
    try simp only at h
    have h1 := kk _ h
    exact absurd (h1 ▸ kd_sl : 6 ≤ 1) (by decide)
  | fieldAddr t x i =>
    rw [hop] at h
    try simp only at h
    split at h
    · rename_i p hp
      split at h
      · rename_i fl d hf hd
        rw [cT_eq] at h
        split at h
        · cases h
        · rename_i hz
          injection h with h1 h2
          exact ⟨t, x, i, p, fl, d, rfl, hp, hf, hd, fun e => hz (by rw [beq_t]; exact e), h1.symm, h2.symm⟩
      · cases h
    · have h1 := kk _ h
      exact absurd (h1 ▸ kd_fa : 6 ≤ 1) (by decide)
  | field t x i =>
    rw [hop] at h
    try simp only at h
    have h1 := kk _ h
    exact absurd (h1 ▸ kd_fld : 6 ≤ 1) (by decide)
  | indexAddr t x i =>
    rw [hop] at h
    try simp only at h
    have h1 := kk _ h
    exact absurd (h1 ▸ kd_ixa : 6 ≤ 1) (by decide)
  | index t x i =>
    rw [hop] at h
    try simp only at h
    have h1 := kk _ h
    exact absurd (h1 ▸ kd_ix : 6 ≤ 1) (by decide)
  | lookup t x i ok =>
    rw [hop] at h
    try simp only at h
    have h1 := kk _ h
    exact absurd (h1 ▸ kd_look : 6 ≤ 1) (by decide)
  | mapUpdate t m k v =>
    rw [hop] at h
    try simp only at h
    have h1 := kk _ h
    have h2 := @kd_mupd X t m k v
    rw [h1] at h2
    exact absurd h2 (by decide)
  | insert t m k v =>
    rw [hop] at h
    try simp only at h
    have h1 := kk _ h
    have h2 := @kd_mupd X t m k v
    rw [h1] at h2
    exact absurd h2 (by decide)
  | range t x =>
    rw [hop] at h
    try simp only at h
    split at h <;> cases h
  | next x i =>
    rw [hop] at h
    try simp only at h
    cases h
  | entry x =>
    rw [hop] at h
    try simp only at h
    cases h
  | typeAssert x t u ok =>
    rw [hop] at h
    try simp only at h
    have h1 := kk _ h
    exact absurd (h1 ▸ kd_as : 6 ≤ 1) (by decide)
  | extract x i =>
    rw [hop] at h
    try simp only at h
    cases h
  | call c =>
    rw [hop] at h
    try simp only at h
    split at h
    · rename_i b hb
      have h1 := kk _ h
      have h2 := @kd_bi X b c.argTypes.toList c.args.toList
      rw [h1] at h2
      exact absurd h2 (by decide)
    · cases h
  | _ => rw [hop] at h; cases h

end
end Go.Ev

/-! Proofs, part 23: what a compiled operation does: effects, boxes. -/
namespace Go.Ev
set_option linter.unusedVariables false
set_option linter.unusedSimpArgs false
section
variable {X : Cx} {env : List Ad} {base : Nat} {U : Nat → Prop} {μ : Mu} {w : World} {H : Heap} {τ : QT X.d} {a : Act} {o : Oper} {P : Program} {ro : Nat}

theorem GR.le (hG : GR ro μ H) (hH : HR μ H w) : ro ≤ H.nx := by
  rcases Nat.eq_zero_or_pos ro with h | h
  · omega
  · obtain ⟨⟨m, h1, _⟩, _⟩ := hG (ro - 1) (by omega)
    have := (hH.dom _ _ h1).1
    omega
theorem storeH_ok {ro n : Nat} {v u : AV} {k : KR} (h : storeH ro n v u H k = .done) : Ok v ∧ Ok u := by
  unfold storeH at h
  rw [cA_done, bA_true, bA_true, beq_t] at h
  exact ⟨ok3 h.1.2.1 (by decide), cellsOk_ok h.1.1⟩
theorem mupd_ok {P : Program} {ro : Nat} {k : TypeId} {d : TypeDesc} {v u s : AV} {kk : KR} (hd : P.underlying k = some d) (hk : keyKind d) (h : mupd ro (keyTag P k) v u s H kk = .done) : Ok v ∧ Ok u ∧ Ok s := by
  unfold mupd at h
  rw [cA_done, bA_true, bA_true, bA_true, ble_t] at h
  obtain ⟨⟨h1, h2, _, h3⟩, _⟩ := h
  unfold mapB at h3
  rw [bA_true, beq_t] at h3
  exact ⟨ok3 h3.1 (by decide), keyOk_ok hd hk h1, h2⟩
theorem mdel_ok {P : Program} {ro : Nat} {k : TypeId} {d : TypeDesc} {v u : AV} {kk : KR} (hd : P.underlying k = some d) (hk : keyKind d) (h : mdel ro (keyTag P k) v u H kk = .done) : Ok v ∧ Ok u := by
  unfold mdel at h
  rw [cA_done] at h
  refine ⟨?_, keyOk_ok hd hk h.1⟩
  rcases cA_cases h.2 with ⟨h1, _⟩ | ⟨_, h2⟩
  · rw [beq_t] at h1; exact ok3 h1 (by decide)
  · rw [cA_done, bA_true] at h2
    have h3 := h2.1.2
    unfold mapB at h3
    rw [bA_true, beq_t] at h3
    exact ok3 h3.1 (by decide)
theorem rangeM_ok {v : AV} {k : KR} (h : rangeM v H k = .done) : Ok v := by
  unfold rangeM at h
  rcases cA_cases h with ⟨h1, _⟩ | ⟨_, h2⟩
  · rw [beq_t] at h1; exact ok3 h1 (by decide)
  · rw [cA_done] at h2
    have h3 := h2.1
    unfold mapB at h3
    rw [bA_true, beq_t] at h3
    exact ok3 h3.1 (by decide)
theorem nextH_ok {b : Bool} {v : AV} {k : KR} (h : nextH b v H k = .done) : Ok v := by
  unfold nextH at h
  rw [cA_done, bA_true, beq_t] at h
  exact ok3 h.1.1 (by decide)
theorem rowsOfK_ok {s : Nat} {v : AV} {k : Nat → (Nat → List AV) → Ans} (h : rowsOfK H s v k = .done) : Ok v ∧ ∃ m f, k m f = .done := by
  unfold rowsOfK at h
  rcases cA_cases h with ⟨h1, h2⟩ | ⟨_, h2⟩
  · rw [beq_t] at h1
    refine ⟨ok3 h1 (by decide), ?_⟩
    rcases cA_cases h2 with ⟨_, h3⟩ | ⟨_, h3⟩
    · exact ⟨_, _, h3⟩
    · unfold rows2 at h3; rw [cA_done] at h3; exact ⟨_, _, h3.2⟩
  · rcases cA_cases h2 with ⟨h1, h3⟩ | ⟨_, h3⟩
    · rw [beq_t] at h1; exact ⟨ok3 h1 (by decide), _, _, h3⟩
    · rw [tA_done, cA_done] at h3; exact ⟨ok3 h3.1 (by decide), _, _, h3.2.2⟩
theorem sl_tag {v : AV} {x y : Ans} (h : cA (Nat.beq v.t 5) x (tA v 6 y) = .done) : Ok v := by
  rcases cA_cases h with ⟨h1, _⟩ | ⟨_, h2⟩
  · rw [beq_t] at h1; exact ok3 h1 (by decide)
  · rw [tA_done] at h2; exact ok3 h2.1 (by decide)
theorem appendH_ok {ro s b : Nat} {zs : List AV} {v u : AV} {k : KR} (h : appendH ro s b zs v u H k = .done) : Ok v ∧ Ok u := by
  unfold appendH at h
  obtain ⟨h1, m, f, h2⟩ := rowsOfK_ok h
  refine ⟨?_, h1⟩
  unfold app2 at h2
  rcases cA_cases h2 with ⟨_, h3⟩ | ⟨_, h3⟩
  · exact sl_tag h3
  · exact sl_tag h3
theorem copyH_ok {ro s : Nat} {v u : AV} {k : KR} (h : copyH ro s v u H k = .done) : Ok v ∧ Ok u := by
  unfold copyH at h
  obtain ⟨h1, m, f, h2⟩ := rowsOfK_ok h
  refine ⟨?_, h1⟩
  unfold cpy1 at h2
  exact sl_tag h2
theorem clearH_ok {ro s : Nat} {zs : List AV} {v : AV} {k : KR} (h : clearH ro s zs v H k = .done) : Ok v := by
  unfold clearH at h
  rcases cA_cases h with ⟨h1, _⟩ | ⟨_, h2⟩
  · rw [beq_t] at h1; exact ok3 h1 (by decide)
  · rw [tA_done] at h2; exact ok3 h2.1 (by decide)
theorem elem_inv {t e : TypeId} (h : elemOfSlice P t = some e) : P.underlying t = some (.slice e) := by
  unfold elemOfSlice at h
  split at h
  · rename_i e' hu'; cases h; exact hu'
  · cases h
theorem bind_inv {t : TypeId} {s : Nat} {zs : List AV} (h : (elemOfSlice P t).bind (zeroCs P) = some (s, zs)) : ∃ e, P.underlying t = some (.slice e) ∧ zeroCs P e = some (s, zs) := by
  cases he : elemOfSlice P t with
  | none => rw [he] at h; cases h
  | some e => rw [he] at h; exact ⟨e, elem_inv he, h⟩
theorem builtin_eff {b : Builtin} {ats : Array TypeId} {args : Array Operand} {ty : TypeId} {cs : Array Bool} {f : QT X.d → Heap → KR → Ans} {k : KR} (R : RelU X env base U μ H w τ a) (hx : ∀ y ∈ args.toList, Ok (cOpd X y τ) → VR μ (cOpd X y τ) (a.eval y))
    (h : builtinCO X b ats.toList args.toList = .eff f) (hok : f τ H k = .done) : EffN X.ro μ H w ((Go.builtin b ats ty cs (args.map a.eval)).run X.P w) k := by
  obtain ⟨ats⟩ := ats
  obtain ⟨args⟩ := args
  have e0 : (⟨args⟩ : Array Operand).map a.eval = ⟨args.map a.eval⟩ := by apply Array.ext'; simp
  rw [e0]
  simp only at h hx
  unfold builtinCO at h
  have kk : ∀ co : CO X.d, co = .eff f → kd co = 3 := fun co e => by rw [e]; rfl
  split at h
  · exact absurd (kk _ h ▸ kd_len : 3 ≤ 1) (by decide)
  · split at h <;> cases h
  · cases h
  · cases h
  · rename_i t t2 x y
    split at h
    · rename_i e he
      split at h
      · cases h
      · rename_i s zs d2 hni hz ht2
        have := eff_inj h; subst this
        have h0 : appendH X.ro s (X.P.bytesOf e) zs (cOpd X x τ) (cOpd X y τ) H k = .done := hok
        obtain ⟨o1, o2⟩ := appendH_ok h0
        exact EffN.of (append_sound (elem_inv he) ht2 (fun kk e => hni kk e) hz R.hH (R.hG.le R.hH) (hx x (by simp) o1) (hx y (by simp) o2) h0)
      · cases h
    · cases h
  · rename_i t _ x y
    split at h
    · rename_i s zs hb
      have := eff_inj h; subst this
      obtain ⟨e, he, hz⟩ := bind_inv hb
      have h0 : copyH X.ro s (cOpd X x τ) (cOpd X y τ) H k = .done := hok
      obtain ⟨o1, o2⟩ := copyH_ok h0
      exact EffN.of (copy_sound (t2 := 0) he hz R.hH (hx x (by simp) o1) (hx y (by simp) o2) h0 _ (by simp))
    · cases h
  · rename_i t _ x
    split at h
    · rename_i s zs hb
      have := eff_inj h; subst this
      obtain ⟨e, he, hz⟩ := bind_inv hb
      have h0 : clearH X.ro s zs (cOpd X x τ) H k = .done := hok
      exact EffN.of (clear_sound he hz R.hH (hx x (by simp) (clearH_ok h0)) h0 _ (by simp))
    · cases h
  · rename_i t _ m key
    split at h
    · rename_i k' _ hp
      have := eff_inj h; subst this
      have h0 : mdel X.ro (keyTag X.P k') (cOpd X m τ) (cOpd X key τ) H k = .done := hok
      obtain ⟨_, d, q1, q2⟩ := plainKey_inv hp
      obtain ⟨o1, o2⟩ := mdel_ok q1 q2 h0
      exact EffN.of (mdel_sound hp R.hH (hx m (by simp) o1) (hx key (by simp) o2) h0 _ (by simp))
    · cases h
  · cases h
/-- an operation that does something -/
theorem eff_sound {f : QT X.d → Heap → KR → Ans} {k : KR} (R : RelU X env base U μ H w τ a) (hU : UsesOk U o) (h : cCO X env o = .eff f) (hok : f τ H k = .done) :
    EffN X.ro μ H w ((execOp a.eval o).run X.P w) k := by
  have hop : ∀ x ∈ o.op.operands.toList, Ok (cOpd X x τ) → VR μ (cOpd X x τ) (a.eval x) := fun x hx hok => R.opd hU hx hok
  rcases cCO_eff h with ⟨t, x, v, ho, hn, rfl⟩ | ⟨t, l, c, ho, h⟩ | ⟨t, m, kx, v, ho, h⟩ | ⟨t, x, ho, h⟩ | ⟨x, b, ho, rfl⟩ | ⟨s, t, x, ho, h⟩ | ⟨c, b, ho, hc, h⟩
  · rw [exec_op _ ho]; rw [ho] at hop
    have h0 : storeH X.ro (szOf X.P t) (cOpd X x τ) (cOpd X v τ) H k = .done := hok
    obtain ⟨o1, o2⟩ := storeH_ok h0
    exact EffN.ofU (store_sound R.hH (hop x (by simp [Op.operands]) o1) (hop v (by simp [Op.operands]) o2) h0)
  · unfold mkSliceCO at h
    split at h
    · cases h
    · rename_i e he
      split at h
      · cases h
      · rename_i s zs hz
        have := eff_inj h; subst this
        rw [exec_op _ ho]; rw [ho] at hop
        exact EffN.of (mkSl_sound (elem_inv he) hz R.hH (hop l (by simp [Op.operands])) (hop c (by simp [Op.operands])) hok)
  · unfold mupdCO at h
    split at h
    · rename_i kt e hp
      have := eff_inj h; subst this
      have h0 : mupd X.ro (keyTag X.P kt) (cOpd X m τ) (cOpd X kx τ) (cOpd X v τ) H k = .done := hok
      obtain ⟨_, d, q1, q2⟩ := plainKey_inv hp
      obtain ⟨o1, o2, o3⟩ := mupd_ok q1 q2 h0
      rcases ho with ho | ho <;> rw [exec_op _ ho] <;> rw [ho] at hop
      · exact EffN.ofU (mupd_sound hp R.hH (hop m (by simp [Op.operands]) o1) (hop kx (by simp [Op.operands]) o2) (hop v (by simp [Op.operands]) o3) h0)
      · exact EffN.ofU (mupd_sound hp R.hH (hop m (by simp [Op.operands]) o1) (hop kx (by simp [Op.operands]) o2) (hop v (by simp [Op.operands]) o3) h0)
    · cases h
  · rw [exec_op _ ho]; rw [ho] at hop
    rcases h with ⟨ht, rfl⟩ | ⟨kt, e, ht, rfl⟩
    · have h0 : rangeS (cOpd X x τ) H k = .done := hok
      have h1 := h0
      unfold rangeS at h1
      rw [tA_done] at h1
      exact EffN.of (rangeS_sound ht R.hH (hop x (by simp [Op.operands]) (ok3 h1.1 (by decide))) h0)
    · have h0 : rangeM (cOpd X x τ) H k = .done := hok
      exact EffN.of (rangeM_sound ht R.hH (hop x (by simp [Op.operands]) (rangeM_ok h0)) h0)
  · rw [exec_op _ ho]; rw [ho] at hop
    have h0 : nextH b (cOpd X x τ) H k = .done := hok
    exact EffN.of (nextH_sound R.hH R.hG.not3 (hop x (by simp [Op.operands]) (nextH_ok h0)) h0)
  · rw [exec_op _ ho]; rw [ho] at hop
    unfold convCO at h
    split at h
    · cases h
    · cases h
    · cases h
    · rename_i e hs ht
      split at h
      · rename_i he
        have := eff_inj h; subst this
        have h0 : cvSB (cOpd X x τ) H k = .done := hok
        have h1 := h0
        unfold cvSB at h1
        rw [tA_done] at h1
        obtain ⟨s', e1, h2⟩ := cvSB_sound (ro := X.ro) (P := X.P) (e := e) R.hH (hop x (by simp [Op.operands]) (ok3 h1.1 (by decide))) h0
        have e2 : (convert s t (a.eval x)).run X.P w = (Conv.stringToBytes e s').run X.P w := by
          rw [e1]
          unfold convert
          simp only [Sem.run_bind, und_run hs, und_run ht, Result.andThen_ok, und_run he]
        exact EffN.of (s := convert s t (a.eval x)) (by rw [e2]; exact h2)
      · cases h
    · split at h <;> cases h
    · cases h
  · rw [exec_builtin _ ho hc]
    rw [ho] at hop
    exact builtin_eff R (fun y hy => hop y (by simp [Op.operands, Call.operands, hc]; simpa using hy)) h hok
/-! ## Boxes -/
/-- a box is made -/
theorem pnew_sound {f : QT X.d → AV} (R : RelU X env base U μ H w τ a) (hU : UsesOk U o) (h : cCO X env o = .pnew f) (hok : (f τ).t = 21) :
    ∃ d ob, o.dst = some d ∧ X.pb.testBit d = true ∧ (execOp a.eval o).run X.P w = .ok (.value (.pointer (some ⟨w.heap.size, 0, none⟩))) (w.alloc ob) ∧ BoxR base μ (w.alloc ob) (f τ) w.heap.size := by
  obtain ⟨d, hd, hb, h⟩ := cCO_pnew h
  rcases h with ⟨t, z, cs, ho, hz, rfl⟩ | ⟨e, x, ho, rfl⟩
  · obtain ⟨ob, h1, h2⟩ := palloc_sound hz R.hH R.hb
    exact ⟨d, ob, hd, hb, by rw [exec_op _ ho]; exact v_run h1, h2⟩
  · obtain ⟨ob, h1, h2⟩ := pbx_sound (P := X.P) (e := e) (fun hok => R.opd hU (x := x) (by rw [ho]; simp [Op.operands]) hok) R.hH R.hb (ok3 hok (by decide))
    exact ⟨d, ob, hd, hb, by rw [exec_op _ ho]; exact v_run h1, h2⟩
/-- a box is written -/
theorem pst_op_sound {b : Nat} {f : QT X.d → AV} (R : RelU X env base U μ H w τ a) (hU : UsesOk U o) (hUb : ¬ U b) (h : cCO X env o = .pst b f) (hok : (f τ).t = 21) :
    ∃ c ob, b < X.nt ∧ X.pb.testBit b = true ∧ (qget X.d b τ).t = 21 ∧ a.tmps.getD b undef = .pointer (some ⟨c, 0, none⟩) ∧ c < w.heap.size ∧ (execOp a.eval o).run X.P w = .ok .skip (w.setB c ob) ∧ BoxR base μ (w.setB c ob) (f τ) c := by
  obtain ⟨t, x, v, p, ho, hp, rfl, rfl⟩ := cCO_pst h
  have h0 : Ok (pstV (szOf X.P t) p.off (slot X p.chk) p.tag (slot X p.box) (cOpd X v) τ) := ok3 hok (by decide)
  unfold pstV at h0
  rw [ok_cV, bA_true, bA_true, bA_true, beq_t, beq_t, ble_t] at h0
  obtain ⟨⟨⟨c1, c2⟩, c3, c4⟩, h1⟩ := h0
  obtain ⟨c, k1, k2, k3, k4, k5⟩ := cAdr_sound R.hF R.hA R.hE hp (fun t e => hU x (by rw [ho]; simp [Op.operands]) t e) hUb c1 c2
  obtain ⟨ob, h2, h3⟩ := pst_sound k3 (fun hok => R.opd hU (x := v) (by rw [ho]; simp [Op.operands]) hok) c3 c4 h1
  refine ⟨c, ob, k4, k5, c2, k2, k3.lt, ?_, ?_⟩
  · rw [exec_op _ ho]
    rw [← k1] at h2
    exact u_run h2
  · have e1 : pstV (szOf X.P t) p.off (slot X p.chk) p.tag (slot X p.box) (cOpd X v) τ = aggV (slot X p.box τ).a (cL (Nat.beq (szOf X.P t) (slot X p.box τ).a) (cellsL (cOpd X v τ)) (spliceL p.off (cellsL (cOpd X v τ)) (slot X p.box τ).l)) := by
      unfold pstV
      rw [show bA (bA (Nat.beq (slot X p.chk τ).t p.tag) (Nat.beq (slot X p.box τ).t 21)) (bA (cellsOk (cOpd X v τ) (szOf X.P t)) (Nat.ble (Nat.add p.off (szOf X.P t)) (slot X p.box τ).a)) = true by
        rw [bA_true, bA_true, bA_true, beq_t, beq_t, ble_t]; exact ⟨⟨c1, c2⟩, c3, c4⟩, cV_true]
    rw [e1]; exact h3
/-- an operand that is an address in a box: where it lies -/
theorem cAdr_addr (hF : FR X base U μ w τ a) (hA : AR X U env τ a) (hE : EnvOk X env) {o : Operand} {p : PA} (hp : cAdr X env o = some p) (hU : ∀ t, o = .tmp t → ¬ U t) (hUb : ¬ U p.box)
    (hc : (slot X p.chk τ).t = p.tag) :
    ∃ c, a.eval o = .pointer (some ⟨c, p.off, none⟩) ∧ a.tmps.getD p.box undef = .pointer (some ⟨c, 0, none⟩) ∧ p.box < X.nt ∧ X.pb.testBit p.box = true := by
  cases o with
  | tmp t =>
    unfold cAdr at hp
    simp only at hp
    rw [cT_eq] at hp
    split at hp
    · rename_i h1
      rw [bA_true, ble_t] at h1
      cases hp
      obtain ⟨c, h2, h3⟩ := hF.bx t (hU t rfl) h1.2 h1.1 hc
      exact ⟨c, h2, h2, h1.2, h1.1⟩
    · rw [cT_eq] at hp
      split at hp
      · rename_i h1
        rw [bA_true, ble_t] at h1
        split at hp
        · rename_i ad had
          cases hp
          obtain ⟨e1, e2⟩ := hE ad (findAd_mem had)
          obtain ⟨c, h2, h3⟩ := hA t ad (hU t rfl) hUb had h1.2 h1.1 hc
          exact ⟨c, h3, h2, e1, e2⟩
        · cases hp
      · cases hp
  | const v => cases hp
  | global g => cases hp
  | func f => cases hp
/-- an address in a box -/
theorem adr_sound {ad : Ad} {f : QT X.d → AV} (R : RelU X env base U μ H w τ a) (hU : UsesOk U o) (hUb : ¬ U ad.box) (h : cCO X env o = .adr ad f) (hok : (f τ).t = 1) :
    ∃ c, o.dst = some ad.t ∧ ad.box < X.nt ∧ X.pb.testBit ad.box = true ∧ a.tmps.getD ad.box undef = .pointer (some ⟨c, 0, none⟩) ∧ (execOp a.eval o).run X.P w = .ok (.value (.pointer (some ⟨c, ad.off, none⟩))) w := by
  obtain ⟨t, x, i, p, fl, d, ho, hp, hf, hd, hz, rfl, rfl⟩ := cCO_adr h
  have h0 : (padr (slot X p.chk) p.tag τ).t = 1 := hok
  unfold padr at h0
  have c1 : (slot X p.chk τ).t = p.tag := by
    cases hb : Nat.beq (slot X p.chk τ).t p.tag with
    | true => rw [beq_t] at hb; exact hb
    | false => rw [hb] at h0; cases h0
  obtain ⟨c, k1, k2, k4, k5⟩ := cAdr_addr R.hF R.hA R.hE hp (fun t e => hU x (by rw [ho]; simp [Op.operands]) t e) hUb c1
  refine ⟨c, hd, k4, k5, k2, ?_⟩
  rw [exec_op _ ho]
  obtain ⟨fs, e1, e2⟩ := fieldAt_inv hf
  refine v_run (s := Instr.fieldAt t (a.eval x) i) ?_
  rw [k1]
  unfold Instr.fieldAt Instr.sureAddr fieldPlace
  simp only [Sem.run_bind, und_run e1, Result.andThen_ok, e2, Sem.run_pure, size_run (szOf_pos (Nat.pos_of_ne_zero hz)), hz, if_false, add_eq, Sem.run_ite]
end
end Go.Ev

/-! Proofs, part 24: an operation, run. -/
namespace Go.Ev
set_option linter.unusedVariables false
set_option linter.unusedSimpArgs false
def NoU : Nat → Prop := fun _ => False
theorem usesNo (o : Oper) : UsesOk NoU o := fun _ _ _ _ h => h
/-- the fences: rounds of a loop, or none -/
def Fr (r : Option Nat) : Fence := { fn := fun _ => True, depth := none, alive := false, round := r }
section
variable {X : Cx} {env : List Ad} {U : Nat → Prop} {μ μ0 : Mu} {w w0 : World} {H H0 : Heap} {τ : QT X.d} {a : Act} {o : Oper} {rd : Option Nat} {base : Nat}
/-- all that is known at a place, since the function began -/
structure RelE (X : Cx) (rd : Option Nat) (env : List Ad) (U : Nat → Prop) (μ0 : Mu) (H0 : Heap) (w0 : World) (μ : Mu) (H : Heap) (w : World) (τ : QT X.d) (a : Act) : Prop where
  R : RelU X env w0.heap.size U μ H w τ a
  E : Ext X.ro μ0 H0 w0 μ H w
  D : rd.isSome = true → (qget X.d X.nt τ).t ≠ 22
theorem RelU.ext {μ' : Mu} {H' : Heap} {w' : World} (h : RelU X env base U μ H w τ a) (hH : HR μ' H' w') (he : Ext X.ro μ H w μ' H' w') : RelU X env base U μ' H' w' τ a :=
  ⟨h.hF.ext he, h.hA, h.hE, h.hG.ext he, hH, Nat.le_trans h.hb he.sz⟩
theorem RelE.ext {μ' : Mu} {H' : Heap} {w' : World} (h : RelE X rd env U μ0 H0 w0 μ H w τ a) (hH : HR μ' H' w') (he : Ext X.ro μ H w μ' H' w') : RelE X rd env U μ0 H0 w0 μ' H' w' τ a :=
  ⟨h.R.ext hH he, h.E.trans he, h.D⟩
theorem Ext.privSet {ro : Nat} (h : Ext ro μ0 H0 w0 μ H w) {c : Nat} (hc : w0.heap.size ≤ c) (hc' : c < w.heap.size) (hn : ∀ b m, μ b = some m → m.c ≠ c) (ob : Obj) : Ext ro μ0 H0 w0 μ H (w.setB c ob) := by
  refine ⟨h.mu, h.nw, h.nx, h.ab, by simpa using h.sz, fun c' h1 h2 => ?_, fun b m h1 h2 h3 => ?_, h.like.trans ⟨rfl, rfl, rfl⟩⟩
  · rw [setB_get _ _ _ _ hc', if_neg (by omega)]; exact h.cb c' h1 h2
  · rw [setB_get _ _ _ _ hc', if_neg (hn b m (h.mu _ _ h2))]; exact h.ro b m h1 h2 h3
theorem envFree_inv {t : Nat} (h : envFree env (some t) = true) : ∀ ad ∈ env, ad.box ≠ t := by
  unfold envFree at h
  rw [List.all_eq_true] at h
  intro ad had e
  have := h ad had
  rw [e] at this; simp at this
theorem RelU.put {v : AV} {x : Value} {t : Nat} (h : RelU X env base U μ H w τ a) (hp : isPlain X t = true) (he : envFree env (some t) = true) (hv : VR μ v x) : RelU X env base U μ H w (qset X.d t τ v) (a.put (some t) x) := by
  obtain ⟨h1, h2, h3⟩ := isPlain_inv hp
  exact ⟨h.hF.put hp hv, h.hA.put h.hF h1 (.inr h3) (envFree_inv he), h.hE, h.hG, h.hH, h.hb⟩
theorem nt_set {v : AV} {t : Nat} (h : FR X base U μ w τ a) (ht : t < X.nt) : qget X.d X.nt (qset X.d t τ v) = qget X.d X.nt τ := by
  rw [qget_qset _ _ _ _ _ (h.pow (by omega)) (h.pow (by omega)), if_neg (by omega)]
theorem RelE.put {v : AV} {x : Value} {t : Nat} (h : RelE X rd env U μ0 H0 w0 μ H w τ a) (hp : isPlain X t = true) (he : envFree env (some t) = true) (hv : VR μ v x) : RelE X rd env U μ0 H0 w0 μ H w (qset X.d t τ v) (a.put (some t) x) :=
  ⟨h.R.put hp he hv, h.E, fun hd => by rw [nt_set h.R.hF (isPlain_inv hp).1]; exact h.D hd⟩
theorem RelE.skip {t : Nat} (h : RelE X rd env U μ0 H0 w0 μ H w τ a) (ht : t < X.nt) (he : envFree env (some t) = true) : RelE X rd env U μ0 H0 w0 μ H w (qset X.d t τ undefA) (a.put (some t) undef) :=
  ⟨⟨h.R.hF.skip ht (fun _ _ => .undef) (.inl (by decide)), h.R.hA.put h.R.hF ht (.inl (by decide)) (envFree_inv he), h.R.hE, h.R.hG, h.R.hH, h.R.hb⟩, h.E, fun hd => by rw [nt_set h.R.hF ht]; exact h.D hd⟩
/-- what comes next is safe -/
def NextOK (X : Cx) (rd : Option Nat) (env : List Ad) (μ0 : Mu) (H0 : Heap) (w0 : World) (r : QT X.d → Heap → RK X.d → Ans) (K : RK X.d) (next : Act → World → Prop) : Prop :=
  ∀ μ H w τ a, RelE X rd env NoU μ0 H0 w0 μ H w τ a → r τ H K = .done → next a w
theorem put_ok {dst : Option Nat} {r : OpR X.d} {K : RK X.d} {next : Act → World → Prop} {v : AV} {x : Value} (hn : NextOK X rd env μ0 H0 w0 r.run K next) (h : RelE X rd env NoU μ0 H0 w0 μ H w τ a) (hv : Ok v → VR μ v x)
    (he : envFree env dst = true) (hok : (putC X dst r).f τ K v H = .done) : next (a.put dst x) w := by
  cases dst with
  | none =>
    have h0 : okA v (r.run τ H K) = .done := hok
    rw [okA_done] at h0
    exact hn _ _ _ _ _ h h0.2
  | some t =>
    have h0 : cT (isPlain X t) (putS' (st X.d t).f r.run) (failP 200) τ K v H = .done := hok
    cases hp : isPlain X t with
    | false => rw [hp] at h0; cases h0
    | true =>
      rw [hp, cT_true] at h0
      unfold putS' at h0
      rw [okA_done, st_eq] at h0
      exact hn _ _ _ _ _ (h.put hp he (hv h0.1)) h0.2
theorem skip_ok {dst : Option Nat} {r : OpR X.d} {K : RK X.d} {next : Act → World → Prop} (hn : NextOK X rd env μ0 H0 w0 r.run K next) (h : RelE X rd env NoU μ0 H0 w0 μ H w τ a)
    (he : envFree env dst = true) (hok : (skipC X dst r).run τ H K = .done) : next (a.put dst undef) w := by
  cases dst with
  | none => exact hn _ _ _ _ _ h hok
  | some t =>
    have h0 : cT (Nat.ble (Nat.succ t) X.nt) (runSkip (st X.d t).f r.run) (failR 201) τ H K = .done := hok
    cases hp : Nat.ble (Nat.succ t) X.nt with
    | false => rw [hp] at h0; cases h0
    | true =>
      rw [hp, cT_true] at h0
      rw [ble_t] at hp
      unfold runSkip at h0
      rw [st_eq] at h0
      exact hn _ _ _ _ _ (h.skip hp he) h0
/-- an operation steps on -/
def StepsTo (P : Program) (o : Oper) (a : Act) (next : Act → World → Prop) (r : Result Next) : Prop :=
  (∃ x w', r = .ok (.value x) w' ∧ next (a.put o.dst x) w') ∨ ∃ w', r = .ok .skip w' ∧ next (a.put o.dst undef) w'
/-- an operation that is no control -/
theorem runCO_ok2 {r : OpR X.d} {K : RK X.d} {next : Act → World → Prop} (hn : NextOK X rd (envOf (cCO X env o) env) μ0 H0 w0 r.run K next) (h : RelE X rd env NoU μ0 H0 w0 μ H w τ a)
    (he : envFree env o.dst = true) (hok : (runCO X (cCO X env o) o.dst r).run τ H K = .done) : StepsTo X.P o a next ((execOp a.eval o).run X.P w) := by
  cases hco : cCO X env o with
  | bad k => rw [hco] at hok; cases hok
  | val k f =>
    rw [hco] at hok hn
    have h0 : (putC X o.dst r).f τ K (f τ H) H = .done := hok
    have hv : Ok (f τ H) := by
      revert h0
      cases o.dst with
      | none => intro h0; have h0 : okA (f τ H) (r.run τ H K) = .done := h0; rw [okA_done] at h0; exact h0.1
      | some t =>
        intro h0
        have h0 : cT (isPlain X t) (putS' (st X.d t).f r.run) (failP 200) τ K (f τ H) H = .done := h0
        cases hp : isPlain X t with
        | false => rw [hp] at h0; cases h0
        | true => rw [hp, cT_true] at h0; unfold putS' at h0; rw [okA_done] at h0; exact h0.1
    obtain ⟨x, h1, h2⟩ := val_sound h.R (usesNo o) (fun _ _ h => h) hco hv
    refine .inl ⟨_, _, h1, ?_⟩
    exact put_ok (env := env) hn h (fun _ => h2) he h0
  | new f mk =>
    rw [hco] at hok hn
    have h0 : runNew f mk (putC X o.dst r).f τ H K = .done := hok
    unfold runNew at h0
    rcases cA_cases h0 with ⟨_, h1⟩ | ⟨h1, h2⟩
    · cases h1
    · rw [hnewK_done] at h2
      have ht : (f τ).t ≠ 0 := fun e => by rw [e] at h1; simp at h1
      obtain ⟨x, ob, m, k1, k2⟩ := new_sound h.R (usesNo o) hco ht
      refine .inl ⟨_, _, k1, ?_⟩
      obtain ⟨g1, g2⟩ := h.R.hH.alloc (ro := X.ro) h2.1 k2.c (k2.br.mono (Mu.put_le h.R.hH.none))
      exact put_ok (env := env) hn (h.ext g1 g2) (fun _ => k2.v _ _ (by simp [Mu.put])) he h2.2
  | eff f =>
    rw [hco] at hok hn
    have h0 : f τ H ((putC X o.dst r).f τ K) = .done := hok
    obtain ⟨x, w', μ', H', v, h1, h2, h3, h4, h5⟩ := eff_sound h.R (usesNo o) hco h0
    rcases h1 with h1 | ⟨h1, rfl⟩
    · refine .inl ⟨_, _, h1, ?_⟩
      exact put_ok (env := env) hn (h.ext h2 h3) (fun _ => h4) he h5
    · refine .inr ⟨_, h1, ?_⟩
      exact put_ok (env := env) hn (h.ext h2 h3) (fun _ => h4) he h5
  | pnew f =>
    rw [hco] at hok hn
    obtain ⟨d, hd, _⟩ := cCO_pnew hco
    rw [hd] at hok he
    have h0 : cT (bA (Nat.testBit X.pb d) (Nat.ble (Nat.succ d) X.nt)) (runSet 21 f (st X.d d).f r.run) (failR 203) τ H K = .done := hok
    cases hc : bA (Nat.testBit X.pb d) (Nat.ble (Nat.succ d) X.nt) with
    | false => rw [hc] at h0; cases h0
    | true =>
      rw [hc, cT_true] at h0
      rw [bA_true, ble_t] at hc
      unfold runSet at h0
      rw [tA_done, st_eq] at h0
      obtain ⟨d', ob, k1, k2, k3, k4⟩ := pnew_sound h.R (usesNo o) hco h0.1
      rw [hd] at k1; cases k1
      refine .inl ⟨_, _, k3, ?_⟩
      rw [hd]
      obtain ⟨g1, g2⟩ := h.R.hH.priv (ro := X.ro) ob
      have hsz : d < a.tmps.size := by rw [h.R.hF.sz]; exact hc.2
      refine hn _ _ _ _ _ ⟨⟨?_, ?_, h.R.hE, h.R.hG.ext g2, g1, Nat.le_trans h.R.hb g2.sz⟩, h.E.trans g2, fun hh => by rw [nt_set h.R.hF hc.2]; exact h.D hh⟩ h0.2
      · refine h.R.hF.box hc.2 hc.1 (by rw [put_getD _ _ _ _ hsz, if_pos rfl]) (by simp [Act.put, h.R.hF.sz]) rfl (fun t' e => by rw [put_getD _ _ _ _ hsz, if_neg e]) k4 (fun c' h1 h2 => by rw [alloc_get, if_neg h2]) ?_
        intro t' hu hne hn' hb' ht e
        obtain ⟨c', e1, e2⟩ := h.R.hF.bx t' hu hn' hb' ht
        rw [e] at e1
        injection e1 with e1; injection e1 with e1; injection e1 with e1 _ _
        have := e2.lt
        omega
      · exact h.R.hA.put h.R.hF hc.2 (.inl (by omega)) (envFree_inv he)
  | pst b f =>
    rw [hco] at hok hn
    obtain ⟨t, xx, vv, p, ho, _⟩ := cCO_pst hco
    cases hd : o.dst with
    | some t => rw [hd] at hok; cases hok
    | none =>
      rw [hd] at hok
      have h0 : cT (bA (Nat.testBit X.pb b) (Nat.ble (Nat.succ b) X.nt)) (runSet 21 f (st X.d b).f r.run) (failR 203) τ H K = .done := hok
      cases hc : bA (Nat.testBit X.pb b) (Nat.ble (Nat.succ b) X.nt) with
      | false => rw [hc] at h0; cases h0
      | true =>
        rw [hc, cT_true] at h0
        unfold runSet at h0
        rw [tA_done, st_eq] at h0
        obtain ⟨c, ob, k1, k2, k3, k4, k5, k6, k7⟩ := pst_op_sound h.R (usesNo o) (fun h => h) hco h0.1
        refine .inr ⟨_, k6, ?_⟩
        rw [hd]
        obtain ⟨cs, ee, j1, j2, j3, j4⟩ := k7.ex
        have hget : ∀ c', c' < w.heap.size → c' ≠ c → (w.setB c ob).heap[c']? = w.heap[c']? := fun c' h1 h2 => by rw [setB_get _ _ _ _ k5, if_neg h2]
        refine hn _ _ _ _ _ ⟨⟨?_, ?_, h.R.hE, h.R.hG, h.R.hH.privSet k5 k7.un ob, by simpa using h.R.hb⟩, h.E.privSet k7.ge k5 k7.un ob, fun hh => by rw [nt_set h.R.hF k1]; exact h.D hh⟩ h0.2
        · refine h.R.hF.box k1 k2 k4 h.R.hF.sz rfl (fun _ _ => rfl) k7 hget ?_
          intro t' hu hne hn' hb' ht e
          exact hne (h.R.hF.dj t' b hu (fun h => h) hn' k1 hb' k2 ht k3 (by rw [e]; exact k4.symm))
        · intro t' ad hu hub hf hn' hb' ht
          have hne : t' ≠ b := fun e => by
            rw [e, qget_qset _ _ _ _ _ (h.R.hF.pow (by omega)) (h.R.hF.pow (by omega)), if_pos rfl, h0.1] at ht
            cases ht
          rw [qget_qset _ _ _ _ _ (h.R.hF.pow (by omega)) (h.R.hF.pow (by omega)), if_neg hne] at ht
          exact h.R.hA t' ad hu hub hf hn' hb' ht
  | adr ad f =>
    rw [hco] at hok hn
    have h0 : cT (bA (bA (Nat.testBit X.ad ad.t) (!Nat.testBit X.pb ad.t)) (Nat.ble (Nat.succ ad.t) X.nt)) (runSet 1 f (st X.d ad.t).f r.run) (failR 206) τ H K = .done := hok
    cases hc : bA (bA (Nat.testBit X.ad ad.t) (!Nat.testBit X.pb ad.t)) (Nat.ble (Nat.succ ad.t) X.nt) with
    | false => rw [hc] at h0; cases h0
    | true =>
      rw [hc, cT_true] at h0
      rw [bA_true, bA_true, ble_t] at hc
      obtain ⟨⟨hc1, hc2⟩, hc3⟩ := hc
      have hc2 : X.pb.testBit ad.t = false := by simpa using hc2
      unfold runSet at h0
      rw [tA_done, st_eq] at h0
      obtain ⟨c, k1, k2, k3, k4, k5⟩ := adr_sound h.R (usesNo o) (fun h => h) hco h0.1
      refine .inl ⟨_, _, k5, ?_⟩
      rw [k1]
      rw [k1] at he
      have hne : ad.box ≠ ad.t := fun e => by rw [e, hc2] at k3; cases k3
      have hsz : ad.t < a.tmps.size := by rw [h.R.hF.sz]; exact hc3
      refine hn _ _ _ _ _ ⟨⟨?_, ?_, ?_, h.R.hG, h.R.hH, h.R.hb⟩, h.E, fun hh => by rw [nt_set h.R.hF hc3]; exact h.D hh⟩ h0.2
      · exact h.R.hF.skip hc3 (fun hp => by have := (isPlain_inv hp).2.2; rw [hc1] at this; cases this) (.inr hc2)
      · intro t' ad' hu hub hf hn' hb' ht
        have hf' : findAd t' (ad :: env) = some ad' := hf
        unfold findAd at hf'
        rw [cT_eq] at hf'
        split at hf'
        · rename_i e
          rw [beq_t] at e
          cases hf'
          refine ⟨c, ?_, ?_⟩
          · rw [put_getD _ _ _ _ hsz, if_neg hne]; exact k4
          · rw [put_getD _ _ _ _ hsz, if_pos e.symm]
        · rename_i e
          have e' : t' ≠ ad.t := fun e2 => e (by rw [beq_t]; exact e2.symm)
          rw [qget_qset _ _ _ _ _ (h.R.hF.pow (by omega)) (h.R.hF.pow (by omega)), if_neg e'] at ht
          obtain ⟨c', g1, g2⟩ := h.R.hA t' ad' hu hub hf' hn' hb' ht
          refine ⟨c', ?_, ?_⟩
          · rw [put_getD _ _ _ _ hsz, if_neg (envFree_inv he ad' (findAd_mem hf'))]; exact g1
          · rw [put_getD _ _ _ _ hsz, if_neg e']; exact g2
      · intro ad' had'
        rcases List.mem_cons.1 had' with rfl | had'
        · exact ⟨k2, k3⟩
        · exact h.R.hE ad' had'
theorem StepsTo.upon {n : Nat} {next : Act → World → Prop} {Q : Exit → Act → World → Prop} {rd' : Option Nat} {P : Program} {r : Result Next} (h : StepsTo P o a next r) : o.uponIn (Fr rd') n P a next Q r := by
  rcases h with ⟨x, w', rfl, h⟩ | ⟨w', rfl, h⟩
  · rw [Oper.uponIn_value]; exact h
  · rw [Oper.uponIn_skip]; exact h
theorem runCO_ok {n : Nat} {r : OpR X.d} {K : RK X.d} {next : Act → World → Prop} {Q : Exit → Act → World → Prop} {rd' : Option Nat} (hn : NextOK X rd (envOf (cCO X env o) env) μ0 H0 w0 r.run K next) (h : RelE X rd env NoU μ0 H0 w0 μ H w τ a)
    (he : envFree env o.dst = true) (hok : (runCO X (cCO X env o) o.dst r).run τ H K = .done) : o.uponIn (Fr rd') n X.P a next Q ((execOp a.eval o).run X.P w) :=
  (runCO_ok2 hn h he hok).upon
end
end Go.Ev

/-! Proofs, part 25: calls, panics. -/
namespace Go.Ev
set_option linter.unusedVariables false
set_option linter.unusedSimpArgs false
/-- how a call may end -/
def RetOK (ro : Nat) (μ : Mu) (H : Heap) (w : World) (kret kpan : KR) : Ending → World → Prop
  | .returned v, w' => ∃ μ' H' u, HR μ' H' w' ∧ Ext ro μ H w μ' H' w' ∧ VR μ' u v ∧ kret u H' = .done
  | .panicked chain, w' => ∃ μ' H' u x, chain = [{ v := x, recovered := false }] ∧ HR μ' H' w' ∧ Ext ro μ H w μ' H' w' ∧ VR μ' u x ∧ kpan u H' = .done
  | .outgrown, _ => False
/-- the calls are safe -/
structure CallOK (P : Program) (ro : Nat) (call : CallT) : Prop where
  fn : ∀ f args H kret kpan μ w xs, call (f + 1) args H kret kpan = .done → HR μ H w → GR ro μ H → VRs μ args xs →
    (∃ fn, P.funcs[f]? = some fn ∧ fn.body.isNone = false ∧ (fn.name == "runtime.NumGoroutine") = false) ∧ CallsIn (Fr none) 0 P f ⟨xs⟩ w (RetOK ro μ H w kret kpan)
  yld : ∀ l args H kret kpan μ w m xs, call 0 (vYld l :: args) H kret kpan = .done → HR μ H w → GR ro μ H → μ l = some m → VRs μ args xs →
    ∃ f ts asg body, (Instr.yield m.c ⟨xs⟩).run P w = .ok (.round m.c f ts asg body) w ∧ RoundIn (Fr none) 0 P m.c f ts asg body w (RetOK ro μ H w kret kpan)
theorem callsIn_fr {rd rd' : Option Nat} {n : Nat} {P : Program} {f : FuncId} {args : Array Value} {w : World} {R : Ending → World → Prop} (h : CallsIn (Fr rd) n P f args w R) : CallsIn (Fr rd') n P f args w R := h
theorem roundIn_fr {rd rd' : Option Nat} {n : Nat} {P : Program} {l : Nat} {f : FuncId} {ts : Array Value} {a b : Code} {w : World} {R : Ending → World → Prop} (h : RoundIn (Fr rd) n P l f ts a b w R) : RoundIn (Fr rd') n P l f ts a b w R := h
section
variable {X : Cx} {env : List Ad} {U : Nat → Prop} {μ μ0 : Mu} {w w0 : World} {H H0 : Heap} {τ : QT X.d} {a : Act} {o : Oper} {rd : Option Nat} {base : Nat} {P : Program}
theorem callFunc_run {f : Nat} {fn : Func} {args : Array Value} (h1 : P.funcs[f]? = some fn) (h2 : fn.body.isNone = false) (h3 : (fn.name == "runtime.NumGoroutine") = false) : (callFunc f args).run P w = .ok (.enter f args) w := by
  unfold callFunc
  rw [Sem.run_bind]
  have : (program).run P w = .ok P w := rfl
  rw [this, Result.andThen_ok, h1]
  simp only [h3, h2, Bool.false_eq_true, if_false, Sem.run_pure]
theorem exec_call {c : Call} {fo : Operand} {ρ : Operand → Value} {fv : Fn} {first captured : Array Value} (ho : o.op = .call c) (hc : c.callee = .value fo) (hf : ρ fo = .func fv first captured) :
    (execOp ρ o).run P w = (invoke (.fn fv captured) (first ++ c.args.map ρ)).run P w := by
  unfold execOp
  rw [ho]
  simp only
  rw [Sem.run_bind]
  unfold resolve
  rw [hc]
  simp only [Deferred.ofValue, hf, Sem.run_pure, Result.andThen_ok]
/-- what comes after the region's panics -/
def KxOK (X : Cx) (rd : Option Nat) (μ0 : Mu) (H0 : Heap) (w0 : World) (kx : Ex → QT X.d → Heap → Ans) (Q : Exit → Act → World → Prop) : Prop :=
  ∀ μ H w τ a, RelE X rd [] NoU μ0 H0 w0 μ H w τ a →
    (∀ id, kx (.j (.exit id)) τ H = .done → Q (.exit id) a w) ∧ (kx (.j .ret) τ H = .done → Q .ret a w) ∧ (∀ v x, VR μ v x → kx (.pan v) τ H = .done → Q (.panic [{ v := x, recovered := false }]) a w)
theorem RelE.bare (h : RelE X rd env NoU μ0 H0 w0 μ H w τ a) : RelE X rd [] NoU μ0 H0 w0 μ H w τ a :=
  ⟨⟨h.R.hF, (fun t ad _ _ hf _ _ _ => by cases hf), (fun ad had => by simp at had), h.R.hG, h.R.hH, h.R.hb⟩, h.E, h.D⟩
theorem ret_ok {r : OpR X.d} {K : RK X.d} {next : Act → World → Prop} {Q : Exit → Act → World → Prop} (hn : NextOK X rd env μ0 H0 w0 r.run K next) (hx : KxOK X rd μ0 H0 w0 K.kx Q) (h : RelE X rd env NoU μ0 H0 w0 μ H w τ a)
    (he : envFree env o.dst = true) (e : Ending) (w' : World) (hr : RetOK X.ro μ H w ((putC X o.dst r).f τ K) (kPan K τ) e w') :
    (match (generalizing := false) e, w' with
      | .returned v, w'' => next (a.put o.dst v) w''
      | .panicked chain, w'' => Q (.panic chain) a w''
      | .outgrown, _ => LetsOut Q) := by
  cases e with
  | returned v =>
    obtain ⟨μ', H', u, h1, h2, h3, h4⟩ := hr
    exact put_ok hn (h.ext h1 h2) (fun _ => h3) he h4
  | panicked chain =>
    obtain ⟨μ', H', u, x, rfl, h1, h2, h3, h4⟩ := hr
    exact (hx _ _ _ _ _ (h.ext h1 h2).bare).2.2 u x h3 h4
  | outgrown => exact hr.elim
theorem arr_app (l m : List Value) : (⟨l⟩ : Array Value) ++ ⟨m⟩ = ⟨l ++ m⟩ := by simp
theorem args_eq {c : Call} : c.args.map a.eval = ⟨c.args.toList.map a.eval⟩ := by apply Array.ext'; simp
/-- a call -/
theorem call_ok {r : OpR X.d} {K : RK X.d} {next : Act → World → Prop} {Q : Exit → Act → World → Prop} {c : Call} {fo : Operand} (hK : CallOK X.P X.ro K.call) (hn : NextOK X rd env μ0 H0 w0 r.run K next) (hx : KxOK X rd μ0 H0 w0 K.kx Q) (h : RelE X rd env NoU μ0 H0 w0 μ H w τ a)
    (he : envFree env o.dst = true) (ho : o.op = .call c) (hc : c.callee = .value fo) {rd' : Option Nat}
    (hok : callFn (cOpd X fo τ) (evals (c.args.toList.map (cOpd X)) τ) (putC X o.dst r).f τ H K = .done) : o.uponIn (Fr rd') 0 X.P a next Q ((execOp a.eval o).run X.P w) := by
  unfold callFn at hok
  rw [cA_done] at hok
  obtain ⟨ha, hok⟩ := hok
  have hargs := opds_rel (os := c.args.toList) h.R.hF h.R.hG (fun _ _ _ _ h => h) ha
  rcases cA_cases hok with ⟨h1, h2⟩ | ⟨h1, h2⟩
  · rw [beq_t] at h1
    have hfv := cOpd_rel (o := fo) h.R.hF h.R.hG (fun _ _ h => h) (ok3 h1 (by decide))
    obtain ⟨xs, ys, e1, e2, e3, _⟩ := hfv.inv_fn h1
    rw [appL_eq, appL_eq] at h2
    obtain ⟨⟨fn, k1, k2, k3⟩, k4⟩ := hK.fn _ _ _ _ _ μ w _ h2 h.R.hH h.R.hG (e2.append (hargs.append e3))
    rw [exec_call ho hc e1, args_eq]
    have hinv : (invoke (.fn (.func (cOpd X fo τ).a) ⟨ys⟩) (⟨xs⟩ ++ ⟨c.args.toList.map a.eval⟩)).run X.P w = .ok (.enter (cOpd X fo τ).a ⟨xs ++ (c.args.toList.map a.eval ++ ys)⟩) w := by
      show (callFunc _ (⟨xs⟩ ++ ⟨c.args.toList.map a.eval⟩ ++ ⟨ys⟩)).run X.P w = _
      rw [arr_app, arr_app, callFunc_run k1 k2 k3, List.append_assoc]
    rw [hinv, Oper.uponIn_enter]
    refine ⟨(fun hd => by cases hd), ?_⟩
    exact (callsIn_fr (rd' := rd') k4).mono fun e w' hr => by have := ret_ok hn hx h he e w' hr; cases e <;> exact this
  · rw [tA_done] at h2
    obtain ⟨h3, h4⟩ := h2
    have hfv := cOpd_rel (o := fo) h.R.hF h.R.hG (fun _ _ h => h) (ok3 h3 (by decide))
    obtain ⟨m, e1, e2, e3⟩ := hfv.inv_yld h3
    rw [e3] at h4
    obtain ⟨f, ts, asg, body, k1, k2⟩ := hK.yld _ _ _ _ _ μ w m _ h4 h.R.hH h.R.hG e1 hargs
    rw [exec_call ho hc e2, args_eq]
    have hinv : (invoke (.fn (.yield m.c) #[]) (#[] ++ ⟨c.args.toList.map a.eval⟩)).run X.P w = .ok (.round m.c f ts asg body) w := by
      rw [show (#[] : Array Value) ++ ⟨c.args.toList.map a.eval⟩ = ⟨c.args.toList.map a.eval⟩ by simp]
      exact k1
    rw [hinv, Oper.uponIn_round]
    refine ⟨(fun hd => by cases hd), ?_⟩
    exact (roundIn_fr (rd' := rd') k2).mono fun e w' hr => by have := ret_ok hn hx h he e w' hr; cases e <;> exact this
/-- a call of a function by name -/
theorem callSt_ok {r : OpR X.d} {K : RK X.d} {next : Act → World → Prop} {Q : Exit → Act → World → Prop} {c : Call} {f : FuncId} (hK : CallOK X.P X.ro K.call) (hn : NextOK X rd env μ0 H0 w0 r.run K next) (hx : KxOK X rd μ0 H0 w0 K.kx Q) (h : RelE X rd env NoU μ0 H0 w0 μ H w τ a)
    (he : envFree env o.dst = true) (ho : o.op = .call c) (hc : c.callee = .value (.func f)) {rd' : Option Nat}
    (hok : callSt2 f (putC X o.dst r).f τ H K (evals (c.args.toList.map (cOpd X)) τ) = .done) : o.uponIn (Fr rd') 0 X.P a next Q ((execOp a.eval o).run X.P w) := by
  unfold callSt2 at hok
  rw [cA_done] at hok
  obtain ⟨ha, hok⟩ := hok
  have hargs := opds_rel (os := c.args.toList) h.R.hF h.R.hG (fun _ _ _ _ h => h) ha
  obtain ⟨⟨fn, k1, k2, k3⟩, k4⟩ := hK.fn _ _ _ _ _ μ w _ hok h.R.hH h.R.hG hargs
  rw [exec_call (fv := .func f) (first := #[]) (captured := #[]) ho hc rfl, args_eq]
  have hinv : (invoke (.fn (.func f) #[]) (#[] ++ ⟨c.args.toList.map a.eval⟩)).run X.P w = .ok (.enter f ⟨c.args.toList.map a.eval⟩) w := by
    show (callFunc _ (#[] ++ ⟨c.args.toList.map a.eval⟩ ++ #[])).run X.P w = _
    rw [show (#[] : Array Value) ++ ⟨c.args.toList.map a.eval⟩ ++ #[] = ⟨c.args.toList.map a.eval⟩ by simp, callFunc_run k1 k2 k3]
  rw [hinv, Oper.uponIn_enter]
  refine ⟨(fun hd => by cases hd), ?_⟩
  exact (callsIn_fr (rd' := rd') k4).mono fun e w' hr => by have := ret_ok hn hx h he e w' hr; cases e <;> exact this
/-- a panic -/
theorem panic_ok {n : Nat} {K : RK X.d} {next : Act → World → Prop} {Q : Exit → Act → World → Prop} {x : Operand} (hx : KxOK X rd μ0 H0 w0 K.kx Q) (h : RelE X rd env NoU μ0 H0 w0 μ H w τ a) (ho : o.op = .panic x) {rd' : Option Nat}
    (hok : runPanic (cOpd X x) τ H K = .done) : o.uponIn (Fr rd') n X.P a next Q ((execOp a.eval o).run X.P w) := by
  unfold runPanic at hok
  rw [tA_done] at hok
  have hv := cOpd_rel (o := x) h.R.hF h.R.hG (fun _ _ h => h) (ok3 hok.1 (by decide))
  obtain ⟨u, y, e1, _⟩ := hv.inv_ifc hok.1
  have hrun : (execOp a.eval o).run X.P w = .halt (.panic (a.eval x)) w := by
    rw [exec_op _ ho]
    show (do pure (Next.value (← Instr.panic (a.eval x))) : Sem Next).run X.P w = _
    rw [Sem.run_bind, e1]
    rfl
  rw [hrun, Oper.uponIn_panic]
  exact (hx _ _ _ _ _ h.bare).2.2 _ _ hv hok.2
end
end Go.Ev

/-! Proofs, part 26: regions in their own order. -/
namespace Go.Ev
set_option linter.unusedVariables false
set_option linter.unusedSimpArgs false
section
variable {X : Cx} {env : List Ad} {U : Nat → Prop} {μ μ0 : Mu} {w w0 : World} {H H0 : Heap} {τ : QT X.d} {a : Act} {o : Oper} {rd : Option Nat} {base : Nat} {P : Program}
theorem envOf_ctl (h : isCtl o.op = true) : envOf (cCO X env o) env = env := by
  cases hco : cCO X env o with
  | adr ad f =>
    obtain ⟨t, x, i, p, fl, d, ho, _⟩ := cCO_adr hco
    rw [ho] at h; cases h
  | _ => rfl
theorem FR.defer {d : Deferred} {v : AV} (h : FR X base U μ w τ a) (ht : (qget X.d X.nt τ).t = 22) (hd : DR μ (v :: (qget X.d X.nt τ).l) (d :: a.defers)) :
    FR X base U μ w (qset X.d X.nt τ (vTup (v :: (qget X.d X.nt τ).l))) { a with defers := d :: a.defers } := by
  have g : ∀ t', t' < X.nt → qget X.d t' (qset X.d X.nt τ (vTup (v :: (qget X.d X.nt τ).l))) = qget X.d t' τ := fun t' ht' => by
    rw [qget_qset _ _ _ _ _ (h.pow (by omega)) (h.pow (by omega)), if_neg (by omega)]
  refine ⟨h.sz, h.dp, fun t hu hp ho => ?_, fun t hu hn hb ht => ?_, fun t t' hu hu' hn hn' hb hb' h1 h2 e => ?_, fun _ => ?_⟩
  · rw [g t (isPlain_inv hp).1] at ho ⊢; exact h.tm t hu hp ho
  · rw [g t hn] at ht ⊢; exact h.bx t hu hn hb ht
  · rw [g t hn] at h1; rw [g t' hn'] at h2; exact h.dj t t' hu hu' hn hn' hb hb' h1 h2 e
  · rw [qget_qset _ _ _ _ _ (h.pow (by omega)) (h.pow (by omega)), if_pos rfl]; exact hd
theorem AR.defer {v : AV} (hA : AR X U env τ a) (h : FR X base U μ w τ a) {ds : List Deferred} : AR X U env (qset X.d X.nt τ v) { a with defers := ds } := by
  intro t ad hu hub hf hn hb ht
  rw [qget_qset _ _ _ _ _ (h.pow (by omega)) (h.pow (by omega)), if_neg (by omega)] at ht
  exact hA t ad hu hub hf hn hb ht
/-- a control -/
theorem ctl_ok {r : OpR X.d} {K : RK X.d} {next : Act → World → Prop} {Q : Exit → Act → World → Prop} (hK : CallOK X.P X.ro K.call) (hn : NextOK X rd env μ0 H0 w0 r.run K next) (hx : KxOK X rd μ0 H0 w0 K.kx Q) (h : RelE X rd env NoU μ0 H0 w0 μ H w τ a)
    (he : envFree env o.dst = true) (hok : (ctlC X false o r).run τ H K = .done) : o.uponIn (Fr rd) 0 X.P a next Q ((o.semAt rd a.eval).run X.P w) := by
  unfold ctlC at hok
  split at hok
  · rename_i c ho
    have hs : o.semAt rd a.eval = execOp a.eval o := Oper.semAt_eq _ _ _ fun c' e => by rw [ho] at e; cases e
    rw [hs]
    split at hok
    · cases hok
    · rename_i f hc
      exact callSt_ok hK hn hx h he ho hc hok
    · rename_i f _ hc
      exact call_ok hK hn hx h he ho hc hok
    · cases hok
  · rename_i c ho
    split at hok
    · rename_i f hc hd
      have h0 : defer2 (gt X.d X.nt).f (st X.d X.nt).f (cOpd X f τ) (evals (c.args.toList.map (cOpd X)) τ) r.run τ H K = .done := hok
      unfold defer2 at h0
      rw [cA_done, tA_done, tA_done, gt_eq, st_eq] at h0
      obtain ⟨h1, h2, h3, h4⟩ := h0
      have hrd : rd = none := by
        cases hr : rd with
        | none => rfl
        | some l => exact absurd h3 (h.D (by rw [hr]; rfl))
      subst hrd
      rw [Oper.semAt_none]
      have hargs := opds_rel (os := c.args.toList) h.R.hF h.R.hG (fun _ _ _ _ h => h) h1
      have hfv := cOpd_rel (o := f) h.R.hF h.R.hG (fun _ _ h => h) (ok3 h2 (by decide))
      obtain ⟨xs, ys, e1, e2, e3, _⟩ := hfv.inv_fn h2
      have hrun : (execOp a.eval o).run X.P w = .ok (.defer { target := .fn (.func (cOpd X f τ).a) ⟨ys⟩, args := ⟨xs ++ c.args.toList.map a.eval⟩ }) w := by
        unfold execOp
        rw [ho]
        simp only
        rw [Sem.run_bind]
        unfold resolve
        rw [hc]
        simp only [Deferred.ofValue, e1, Sem.run_pure, Result.andThen_ok, args_eq, arr_app]
      rw [hrun, Oper.uponIn_defer, hd]
      rw [appL_eq] at h4
      refine hn _ _ _ _ _ ⟨⟨h.R.hF.defer h3 (.fn (e2.append hargs) e3 (h.R.hF.df h3)), h.R.hA.defer h.R.hF, h.R.hE, h.R.hG, h.R.hH, h.R.hb⟩, h.E, fun hh => by cases hh⟩ h4
    · cases hok
  · rename_i x ho
    have hs : o.semAt rd a.eval = execOp a.eval o := Oper.semAt_eq _ _ _ fun c' e => by rw [ho] at e; cases e
    rw [hs]
    exact panic_ok hx h ho hok
  · cases hok
theorem op1_ok {r : OpR X.d} {K : RK X.d} {next : Act → World → Prop} {Q : Exit → Act → World → Prop} (hK : CallOK X.P X.ro K.call) (hn : NextOK X rd (envOf (cCO X env o) env) μ0 H0 w0 r.run K next) (hx : KxOK X rd μ0 H0 w0 K.kx Q) (h : RelE X rd env NoU μ0 H0 w0 μ H w τ a)
    (he : envFree env o.dst = true) (hok : (op1 X false (cCO X env o) o r).run τ H K = .done) : o.wpIn (Fr rd) 0 X.P a w next Q := by
  refine ⟨fun _ _ => trivial, ?_⟩
  show o.uponIn (Fr rd) 0 X.P a next Q ((o.semAt rd a.eval).run X.P w)
  unfold op1 at hok
  cases hc : isCtl o.op with
  | true =>
    rw [hc, cT_true] at hok
    rw [envOf_ctl hc] at hn
    exact ctl_ok hK hn hx h he hok
  | false =>
    rw [hc, cT_false] at hok
    have hs : o.semAt rd a.eval = execOp a.eval o := Oper.semAt_eq _ _ _ fun c' e => by rw [e] at hc; cases hc
    rw [hs]
    exact runCO_ok hn h he hok
/-- the guard's answer -/
theorem guard_ok {ops : Array Oper} {j t : Nat} (h : RelE X rd env NoU μ0 H0 w0 μ H w τ a) (ht : (ops.toList[j]?).bind (·.dst) = some t) :
    ((cTmp X t τ).t = 1 → yielded ops a.tmps j = some true) ∧ ((cTmp X t τ).t = 0 → yielded ops a.tmps j = some false) ∧ ((cTmp X t τ).t = 22 → (cTmp X t τ).l = [] → yielded ops a.tmps j = none) := by
  have key : Ok (cTmp X t τ) → VR μ (cTmp X t τ) (a.tmps.getD t undef) ∧ a.tmps[t]? = some (a.tmps.getD t undef) := by
    intro hok
    have hv := cOpd_rel (o := .tmp t) h.R.hF h.R.hG (fun _ _ h => h) hok
    refine ⟨hv, ?_⟩
    have hp : isPlain X t = true := by
      cases hp : isPlain X t with
      | true => rfl
      | false =>
        have e : cTmp X t τ = vX := by unfold cTmp; rw [hp]; rfl
        rw [e] at hok; simp at hok
    have hlt : t < a.tmps.size := by rw [h.R.hF.sz]; exact (isPlain_inv hp).1
    rw [Array.getD_eq_getD_getElem?, Array.getElem?_eq_getElem hlt]
    rfl
  have hy : yielded ops a.tmps j = match a.tmps[t]? with | some (.bool b) => some b | _ => none := by
    unfold yielded
    rw [← Array.getElem?_toList, ht]
    rfl
  refine ⟨fun e => ?_, fun e => ?_, fun e e' => ?_⟩
  · obtain ⟨h1, h2⟩ := key (ok3 e (by decide))
    rw [hy, h2, h1.inv_t e]
  · obtain ⟨h1, h2⟩ := key (ok3 e (by decide))
    rw [hy, h2, h1.inv_f e]
  · obtain ⟨h1, h2⟩ := key (ok3 e (by decide))
    obtain ⟨xs, e1, _⟩ := h1.inv_tup e
    rw [hy, h2, e1]
theorem cAdr_box (hE : EnvOk X env) {x : Operand} {p : PA} (hp : cAdr X env x = some p) : p.box < X.nt ∧ X.pb.testBit p.box = true := by
  cases x with
  | tmp t =>
    unfold cAdr at hp
    simp only at hp
    rw [cT_eq] at hp
    split at hp
    · rename_i h1
      rw [bA_true, ble_t] at h1
      cases hp
      exact ⟨h1.2, h1.1⟩
    · rw [cT_eq] at hp
      split at hp
      · split at hp
        · rename_i ad had
          cases hp
          exact hE ad (findAd_mem had)
        · cases hp
      · cases hp
  | const v => cases hp
  | global g => cases hp
  | func f => cases hp
/-- an operation that its guard leaves out -/
theorem skipE_ok {r : OpR X.d} {K : RK X.d} {next : Act → World → Prop} (hn : NextOK X rd (envOf (cCO X env o) env) μ0 H0 w0 r.run K next) (h : RelE X rd env NoU μ0 H0 w0 μ H w τ a)
    (he : envFree env o.dst = true) (hok : (skipC X o.dst r).run τ H K = .done) : next (a.put o.dst undef) w := by
  have plain : envOf (cCO X env o) env = env → next (a.put o.dst undef) w := fun e => by rw [e] at hn; exact skip_ok hn h he hok
  cases hco : cCO X env o with
  | adr ad f =>
    obtain ⟨t, x, i, p, fl, d, ho, hp, hf, hd, hz, e1, e2⟩ := cCO_adr hco
    rw [hco] at hn
    rw [hd] at hok he ⊢
    have h0 : cT (Nat.ble (Nat.succ d) X.nt) (runSkip (st X.d d).f r.run) (failR 201) τ H K = .done := hok
    cases hb : Nat.ble (Nat.succ d) X.nt with
    | false => rw [hb] at h0; cases h0
    | true =>
      rw [hb, cT_true] at h0
      rw [ble_t] at hb
      unfold runSkip at h0
      rw [st_eq] at h0
      have hs := h.skip hb he
      refine hn _ _ _ _ _ ⟨⟨hs.R.hF, ?_, ?_, hs.R.hG, hs.R.hH, hs.R.hb⟩, hs.E, hs.D⟩ h0
      · intro t' ad' hu hub hf' hn' hb' ht
        have hf'' : findAd t' (ad :: env) = some ad' := hf'
        unfold findAd at hf''
        rw [cT_eq] at hf''
        split at hf''
        · rename_i e
          rw [beq_t, e1] at e
          rw [← e, qget_qset _ _ _ _ _ (h.R.hF.pow (by omega)) (h.R.hF.pow (by omega)), if_pos rfl] at ht
          cases ht
        · exact hs.R.hA t' ad' hu hub hf'' hn' hb' ht
      · intro ad' had'
        rcases List.mem_cons.1 had' with rfl | had'
        · rw [e1]; exact cAdr_box h.R.hE hp
        · exact h.R.hE ad' had'
  | _ => exact plain (by rw [hco]; rfl)
theorem cOp_ok {ops : Array Oper} {r : OpR X.d} {K : RK X.d} {next : Act → World → Prop} {Q : Exit → Act → World → Prop} (hK : CallOK X.P X.ro K.call) (hn : NextOK X rd (envOf (cCO X env o) env) μ0 H0 w0 r.run K next) 
    (hx : KxOK X rd μ0 H0 w0 K.kx Q) (h : RelE X rd env NoU μ0 H0 w0 μ H w τ a)
    (he : envFree env o.dst = true) (hok : (cOp X false ops.toList (cCO X env o) o r).run τ H K = .done) :
    if Region.wanted o (yielded ops a.tmps) = true then o.wpIn (Fr rd) 0 X.P a w next Q else (∀ f, o.about X.P w a.eval = some f → (Fr rd).fn f) ∧ next (a.put o.dst undef) w := by
  unfold cOp at hok
  split at hok
  · rename_i hg
    have hw : Region.wanted o (yielded ops a.tmps) = true := by unfold Region.wanted; rw [hg]
    rw [if_pos hw]
    exact op1_ok hK hn hx h he hok
  · rename_i j want hg
    have hw : Region.wanted o (yielded ops a.tmps) = (yielded ops a.tmps j == some want) := by unfold Region.wanted; rw [hg]
    split at hok
    · rename_i t ht
      obtain ⟨g1, g2, g3⟩ := guard_ok (ops := ops) h ht
      have h0 : runGuard (cTmp X t) want (op1 X false (cCO X env o) o r).run (skipC X o.dst r).run τ H K = .done := hok
      unfold runGuard at h0
      have yes : Region.wanted o (yielded ops a.tmps) = true → (op1 X false (cCO X env o) o r).run τ H K = .done →
          if Region.wanted o (yielded ops a.tmps) = true then o.wpIn (Fr rd) 0 X.P a w next Q else (∀ f, o.about X.P w a.eval = some f → (Fr rd).fn f) ∧ next (a.put o.dst undef) w := fun e1 e => by
        rw [if_pos e1]; exact op1_ok hK hn hx h he e
      have no : Region.wanted o (yielded ops a.tmps) = false → (skipC X o.dst r).run τ H K = .done →
          if Region.wanted o (yielded ops a.tmps) = true then o.wpIn (Fr rd) 0 X.P a w next Q else (∀ f, o.about X.P w a.eval = some f → (Fr rd).fn f) ∧ next (a.put o.dst undef) w := fun e1 e => by
        rw [if_neg (by rw [e1]; decide)]; exact ⟨fun _ _ => trivial, skipE_ok hn h he e⟩
      rcases cA_cases h0 with ⟨h1, h2⟩ | ⟨h1, h2⟩
      · rw [beq_t] at h1
        have g := g1 h1
        cases want with
        | true => exact yes (by rw [hw, g]; rfl) h2
        | false => exact no (by rw [hw, g]; rfl) h2
      · rcases cA_cases h2 with ⟨h3, h4⟩ | ⟨h3, h4⟩
        · rw [beq_t] at h3
          have g := g2 h3
          cases want with
          | true => exact no (by rw [hw, g]; rfl) h4
          | false => exact yes (by rw [hw, g]; rfl) h4
        · rw [cA_done, bA_true, beq_t, nilB_eq] at h4
          exact no (by rw [hw, g3 h4.1.1 h4.1.2]; rfl) h4.2
    · cases hok
/-- a whole region in its own order -/
theorem cOps_ok {ops : Array Oper} {K : RK X.d} {Q : Exit → Act → World → Prop} (hK : CallOK X.P X.ro K.call) (hx : KxOK X rd μ0 H0 w0 K.kx Q)
    (hkn : ∀ μ H w τ a, RelE X rd [] NoU μ0 H0 w0 μ H w τ a → K.kn τ H = .done → Q .normal a w) :
    ∀ (l : List Oper) (i : Nat) (env : List Ad), ops.toList.drop i = l → NextOK X rd env μ0 H0 w0 (cOps X false ops.toList env l).run K (wpOpsIn (Fr rd) 0 X.P ops Q (List.range' i l.length)) := by
  intro l
  induction l with
  | nil =>
    intro i env hl μ H w τ a h hok
    exact hkn _ _ _ _ _ h.bare hok
  | cons o l ih =>
    intro i env hl μ H w τ a h hok
    have ho : ops[i]? = some o := by
      rw [← Array.getElem?_toList]
      have : (ops.toList.drop i)[0]? = some o := by rw [hl]; rfl
      rw [List.getElem?_drop] at this
      simpa using this
    have hl' : ops.toList.drop (i + 1) = l := by
      rw [← List.drop_drop, hl]; rfl
    have h0 : (cT (envFree env o.dst) (cOp X false ops.toList (cCO X env o) o (cOps X false ops.toList (envOf (cCO X env o) env) l)) ⟨failR 198⟩).run τ H K = .done := hok
    cases hef : envFree env o.dst with
    | false => rw [hef] at h0; cases h0
    | true =>
      rw [hef, cT_true] at h0
      rw [List.length_cons, List.range'_succ]
      unfold wpOpsIn
      rw [ho]
      simp only
      have hn := ih (i + 1) (envOf (cCO X env o) env) hl'
      exact cOp_ok hK hn hx h hef h0
end
end Go.Ev

/-! Proofs, part 27: code. -/
namespace Go.Ev
set_option linter.unusedVariables false
set_option linter.unusedSimpArgs false
section
variable {X : Cx} {μ μ0 : Mu} {w w0 : World} {H H0 : Heap} {τ : QT X.d} {a : Act} {rd : Option Nat} {P : Program}
/-- compiled code does what the code does -/
def CodeOK (X : Cx) (rd : Option Nat) (c : Code) (x : ClT X.d) : Prop :=
  ∀ (call : CallT) (kn : QT X.d → Heap → Ans) (kx : Ex → QT X.d → Heap → Ans) (Q : Exit → Act → World → Prop) μ0 H0 w0 μ H w τ a, CallOK X.P X.ro call →
    RelE X rd [] NoU μ0 H0 w0 μ H w τ a → x call τ H kn kx = .done →
    (∀ μ H w τ a, RelE X rd [] NoU μ0 H0 w0 μ H w τ a → kn τ H = .done → Q .normal a w) → KxOK X rd μ0 H0 w0 kx Q → c.wpIn (Fr rd) 0 X.P Q a w
theorem seqOps_ok {id : Nat} {ops : Array Oper} : CodeOK X rd (.region id ops false) (xRegion (cOps X false ops.toList [] ops.toList).run) := by
  intro call kn kx Q μ0 H0 w0 μ H w τ a hK h hok hkn hx
  refine wpIn_region ?_
  have h1 := cOps_ok (K := ⟨call, kn, kx⟩) (Q := Q) hK hx hkn ops.toList 0 [] rfl _ _ _ _ _ h hok
  have e : List.range ops.size = List.range' 0 ops.toList.length := by rw [Array.length_toList, List.range_eq_range']
  rw [e]; exact h1
theorem cond_ok {c : Operand} {x y : Code} {cx cy : ClT X.d} (hx : CodeOK X rd x cx) (hy : CodeOK X rd y cy) : CodeOK X rd (.cond c x y) (xCond (cOpd X c) cx cy) := by
  intro call kn kx Q μ0 H0 w0 μ H w τ a hK h hok hkn hkx
  unfold xCond at hok
  rcases cA_cases hok with ⟨h1, h2⟩ | ⟨_, h2⟩
  · rw [beq_t] at h1
    have hv := cOpd_rel (o := c) h.R.hF h.R.hG (fun _ _ h => h) (ok3 h1 (by decide))
    exact wpIn_cond_true (hv.inv_t h1) (hx _ _ _ _ _ _ _ _ _ _ _ _ hK h h2 hkn hkx)
  · rw [tA_done] at h2
    have hv := cOpd_rel (o := c) h.R.hF h.R.hG (fun _ _ h => h) (ok3 h2.1 (by decide))
    exact wpIn_cond_false (hv.inv_f h2.1) (hy _ _ _ _ _ _ _ _ _ _ _ _ hK h h2.2 hkn hkx)
theorem kx_then {kx : Ex → QT X.d → Heap → Ans} {Q : Exit → Act → World → Prop} {next : Act → World → Prop} (h : KxOK X rd μ0 H0 w0 kx Q) : KxOK X rd μ0 H0 w0 kx (Exit.then next Q) :=
  fun μ H w τ a hr => let ⟨h1, h2, h3⟩ := h μ H w τ a hr; ⟨h1, h2, h3⟩
theorem seq_ok {x y : Code} {cx cy : ClT X.d} (hx : CodeOK X rd x cx) (hy : CodeOK X rd y cy) : CodeOK X rd (.seq x y) (xSeq cx cy) := by
  intro call kn kx Q μ0 H0 w0 μ H w τ a hK h hok hkn hkx
  refine wpIn_seq ?_
  refine hx call (kSeq cy call kn kx) kx _ μ0 H0 w0 μ H w τ a hK h hok ?_ (kx_then hkx)
  intro μ' H' w' τ' a' h' hok'
  exact hy call kn kx Q μ0 H0 w0 μ' H' w' τ' a' hK h' hok' hkn hkx
theorem block_ok {id : Nat} {x : Code} {cx : ClT X.d} (hx : CodeOK X rd x cx) : CodeOK X rd (.block id x) (xBlock id cx) := by
  intro call kn kx Q μ0 H0 w0 μ H w τ a hK h hok hkn hkx
  refine wpIn_block ?_
  refine hx call kn (kBlock id kn kx) _ μ0 H0 w0 μ H w τ a hK h hok (fun μ H w τ a h' ho => hkn μ H w τ a h' ho) ?_
  intro μ' H' w' τ' a' h'
  obtain ⟨k1, k2, k3⟩ := hkx μ' H' w' τ' a' h'
  refine ⟨fun id' ho => ?_, fun ho => k2 ho, fun v x hv ho => k3 v x hv ho⟩
  have ho' : cA (Nat.beq id' id) (kn τ' H') (kx (.j (.exit id')) τ' H') = .done := ho
  show if id' = id then Q .normal a' w' else Q (.exit id') a' w'
  rcases cA_cases ho' with ⟨e1, e2⟩ | ⟨e1, e2⟩
  · rw [beq_t] at e1
    rw [if_pos e1]; exact hkn _ _ _ _ _ h' e2
  · have e1' : id' ≠ id := fun e => by rw [e] at e1; simp at e1
    rw [if_neg e1']; exact k1 id' e2
theorem loop_ok {x : Code} {cx : ClT X.d} (hx : CodeOK X rd x cx) : CodeOK X rd (.loop x) (xLoop cx) := by
  intro call kn kx Q μ0 H0 w0 μ H w τ a hK h hok hkn hkx
  refine wpIn_loop_rounds loopFuel ?_
  have key : ∀ (n : Nat) μ H w τ a, RelE X rd [] NoU μ0 H0 w0 μ H w τ a → loopN cx n call τ H kx = .done → Code.roundsIn (Fr rd) 0 X.P x Q n a w := by
    intro n
    induction n with
    | zero => intro μ H w τ a h hok; cases hok
    | succ n ih =>
      intro μ H w τ a h hok
      rw [roundsIn_succ]
      exact hx call (kLoop (loopN cx n) call kx) kx _ μ0 H0 w0 μ H w τ a hK h hok (fun μ' H' w' τ' a' h' hok' => ih μ' H' w' τ' a' h' hok') (kx_then hkx)
  exact key loopFuel μ H w τ a h hok
theorem fail_ok {c : Code} {k : Nat} : CodeOK X rd c (xFail k) := by
  intro call kn kx Q μ0 H0 w0 μ H w τ a hK h hok
  cases hok
/-- all code, but for what is to be shown of regions that draw and of ranges over functions -/
theorem comp_ok (hdraw : ∀ id ops, CodeOK X rd (.region id ops true) (xRegion (drawnR X ops.toList).run)) (hrange : ∀ fn f ps asg body, X.pb = 0 → X.ad = 0 → CodeOK X rd (.rangeFunc f ps asg body) (xRange X fn (cOpd X f) ps.toList asg body))
    (fn : Nat) : ∀ c : Code, CodeOK X rd c (comp X fn c).run := by
  intro c
  induction c with
  | skip => exact fun call kn kx Q μ0 H0 w0 μ H w τ a hK h hok hkn hkx => wpIn_skip (hkn _ _ _ _ _ h hok)
  | label l => exact fun call kn kx Q μ0 H0 w0 μ H w τ a hK h hok hkn hkx => wpIn_label (hkn _ _ _ _ _ h hok)
  | region id ops draw =>
    cases draw with
    | true => exact hdraw id ops
    | false =>
      show CodeOK X rd (.region id ops false) (xRegion (cT false (drawnR X ops.toList) (cT (nodupD ops.toList 0) (cOps X false ops.toList [] ops.toList) ⟨failR 219⟩)).run)
      rw [cT_false]
      cases nodupD ops.toList 0 with
      | true => exact seqOps_ok
      | false => intro call kn kx Q μ0 H0 w0 μ H w τ a hK h hok; cases hok
  | seq x y ihx ihy =>
    show CodeOK X rd (.seq x y) (xSeq (comp X fn x).run (comp X fn y).run)
    exact seq_ok ihx ihy
  | cond c x y ihx ihy =>
    show CodeOK X rd (.cond c x y) (xCond (cOpd X c) (comp X fn x).run (comp X fn y).run)
    exact cond_ok ihx ihy
  | block id x ih =>
    show CodeOK X rd (.block id x) (xBlock id (comp X fn x).run)
    exact block_ok ih
  | loop x ih =>
    show CodeOK X rd (.loop x) (xLoop (comp X fn x).run)
    exact loop_ok ih
  | rangeFunc f ps asg body =>
    show CodeOK X rd (.rangeFunc f ps asg body) ((⟨cT (bA (Nat.beq X.pb 0) (Nat.beq X.ad 0)) (xRange X fn (cOpd X f) ps.toList asg body) (xFail 225)⟩ : Cl X.d).run)
    cases hb : bA (Nat.beq X.pb 0) (Nat.beq X.ad 0) with
    | true =>
      rw [bA_true, beq_t, beq_t] at hb
      exact hrange fn f ps asg body hb.1 hb.2
    | false => exact fail_ok
  | exit id => exact fun call kn kx Q μ0 H0 w0 μ H w τ a hK h hok hkn hkx => wpIn_exit ((hkx _ _ _ _ _ h).1 id hok)
  | scope c ih => exact fail_ok
  | goto l => exact fail_ok
  | ret => exact fun call kn kx Q μ0 H0 w0 μ H w τ a hK h hok hkn hkx => wpIn_ret ((hkx _ _ _ _ _ h).2.1 hok)
  | refuse s => exact fail_ok
end
end Go.Ev

/-! Proofs, part 28: functions. -/
namespace Go.Ev
set_option linter.unusedVariables false
set_option linter.unusedSimpArgs false
/-! ## Arguments -/
theorem argsK_ok {d nt pb : Nat} (hd : nt + 2 ≤ 8 ^ d) : ∀ (vs : List AV) (i : Nat) (t : QT d) (k : QT d → Ans), argsK d nt pb vs i t k = .done →
    ∃ τ, k τ = .done ∧ (vs = [] ∨ i + vs.length ≤ nt) ∧ (∀ j, j < nt + 2 → qget d j τ = if i ≤ j ∧ j < i + vs.length then vs.getD (j - i) vX else qget d j t) ∧
      (∀ j v, vs[j]? = some v → v.t = 21 → pb.testBit (i + j) = false)
  | [], i, t, k, h => ⟨t, h, .inl rfl, (fun j _ => by rw [if_neg (by simp only [List.length_nil]; omega)]), (fun j v hv => by simp at hv)⟩
  | v :: vs, i, t, k, h => by
    have h0 : argS d nt pb v (argsK d nt pb vs) i t k = .done := h
    unfold argS at h0
    rw [cA_done, bA_true, ble_t, st_eq] at h0
    obtain ⟨⟨h1, h2⟩, h3⟩ := h0
    have h1 : i < nt := h1
    have h3' : argsK d nt pb vs (i + 1) (qset d i t v) k = .done := h3
    obtain ⟨τ, k1, k2, k3, k4⟩ := argsK_ok hd vs (i + 1) (qset d i t v) k h3'
    refine ⟨τ, k1, .inr ?_, fun j hj => ?_, fun j u hu hut => ?_⟩
    · rcases k2 with rfl | k2
      · simp; omega
      · simp; omega
    · rw [k3 j hj]
      by_cases e1 : j = i
      · subst e1
        rw [if_neg (by omega), if_pos (by simp), qget_qset _ _ _ _ _ (by omega) (by omega), if_pos rfl]
        simp
      · by_cases e2 : i + 1 ≤ j ∧ j < i + 1 + vs.length
        · rw [if_pos e2, if_pos (by simp; omega)]
          have : j - i = (j - (i + 1)) + 1 := by omega
          rw [this]; simp
        · rw [if_neg e2, if_neg (by simp; omega), qget_qset _ _ _ _ _ (by omega) (by omega), if_neg e1]
    · cases j with
      | zero =>
        have : v = u := by simpa using hu
        subst this
        rw [hut] at h2
        simpa using h2
      | succ j =>
        have := k4 j u (by simpa using hu) hut
        rw [show i + (j + 1) = i + 1 + j by omega]; exact this
theorem depth_ok {n : Nat} (h : n ≤ 502) : n ≤ 8 ^ depthOf n := by
  unfold depthOf
  rw [cT_eq, cT_eq]
  split
  · rename_i h1; rw [ble_t] at h1; exact h1
  · split
    · rename_i h1; rw [ble_t] at h1; exact h1
    · have : 8 ^ 3 = 512 := by decide
      omega
section
variable {X : Cx} {μ μ0 : Mu} {w w0 : World} {H H0 : Heap} {τ : QT X.d} {a : Act} {rd : Option Nat} {P : Program} {ro : Nat}
theorem frame_ok {vs : List AV} {xs : List Value} (hd : X.nt + 2 ≤ 8 ^ X.d) (hv : VRs μ vs xs) (hl : vs = [] ∨ vs.length ≤ X.nt)
    (hq : ∀ j, j < X.nt + 2 → qget X.d j τ = if j < vs.length then vs.getD j vX else undefA) (hb : ∀ j v, vs[j]? = some v → v.t = 21 → X.pb.testBit j = false) (base : Nat) :
    FR X base NoU μ w τ { tmps := (⟨xs⟩ : Array Value) ++ Array.replicate (X.nt - (⟨xs⟩ : Array Value).size) undef, defers := [] } := by
  have hlen : xs.length ≤ X.nt := by rw [← hv.1]; rcases hl with rfl | h; simp; exact h
  have nob : ∀ t, t < X.nt → X.pb.testBit t = true → (qget X.d t τ).t ≠ 21 := by
    intro t ht hp e
    rw [hq t (by omega)] at e
    by_cases h : t < vs.length
    · rw [if_pos h] at e
      have := hb t (vs.getD t vX) (by simp [List.getD, h]) e
      rw [hp] at this; cases this
    · rw [if_neg h] at e; cases e
  have hget : ∀ t, ((⟨xs⟩ : Array Value) ++ Array.replicate (X.nt - (⟨xs⟩ : Array Value).size) undef).getD t undef = xs.getD t undef := by
    intro t
    rw [Array.getD_eq_getD_getElem?, Array.getElem?_append]
    by_cases h : t < xs.length
    · rw [if_pos (by simpa using h)]
      simp [List.getD]
    · rw [if_neg (by simpa using h)]
      rw [Array.getElem?_replicate]
      have : xs.getD t undef = undef := by simp [List.getD, List.getElem?_eq_none (Nat.le_of_not_lt h)]
      rw [this]
      split <;> rfl
  refine ⟨by simp; omega, hd, fun t _ hp ho => ?_, fun t _ ht hp e => absurd e (nob t ht hp), fun t t' _ _ ht _ hp _ e => absurd e (nob t ht hp), fun _ => ?_⟩
  · have ht := (isPlain_inv hp).1
    rw [hget]
    rw [hq t (by omega)] at ho ⊢
    by_cases h : t < vs.length
    · rw [if_pos h]; exact hv.2 t h
    · rw [if_neg h]
      have : xs.getD t undef = undef := by simp [List.getD, List.getElem?_eq_none (show xs.length ≤ t by rw [← hv.1]; omega)]
      rw [this]; exact .undef
  · have : ¬ X.nt < vs.length := by rcases hl with rfl | h; simp; omega
    rw [hq X.nt (by omega), if_neg this]
    exact .nil
/-! ## Results -/
theorem asAddr_run {c o : Nat} : (asAddr (.pointer (some ⟨c, o, none⟩))).run P w = .ok ⟨c, o, none⟩ w := rfl
/-- a result, as the model reads it -/
def resS' (tmps : Array Value) : ResultVar → Sem Value
  | .tmp t => pure (tmps.getD t undef)
  | .cell a t => do loadVar t (← asAddr (tmps.getD a undef))
theorem resV_ok {v : ResultVar} (h : RelE X rd [] NoU μ0 H0 w0 μ H w τ a) (hok : Ok (resV X v τ H)) : ∃ x, (resS' a.tmps v).run X.P w = .ok x w ∧ VR μ (resV X v τ H) x := by
  cases v with
  | tmp t =>
    have h0 : Ok (cTmp X t τ) := hok
    exact ⟨_, rfl, cOpd_rel (o := .tmp t) h.R.hF h.R.hG (fun _ _ h => h) h0⟩
  | cell c t =>
    unfold resV at hok ⊢
    simp only at hok ⊢
    rw [cT_eq] at hok ⊢
    split at hok
    · simp [u0] at hok
    · rename_i hty
      rw [if_neg hty]
      have hty' : tyOk X.P t = true := by simpa using hty
      rw [cT_eq] at hok ⊢
      split at hok
      · rename_i hb
        rw [if_pos hb]
        rw [cT_eq] at hok ⊢
        split at hok
        · rename_i hn
          rw [if_pos hn]
          rw [ble_t] at hn
          unfold pld at hok ⊢
          rw [ok_cV, bA_true, beq_t] at hok
          obtain ⟨⟨h1, h2⟩, h3⟩ := hok
          obtain ⟨cc, k1, k2⟩ := h.R.hF.bx c (fun h => h) hn hb h1
          obtain ⟨z, z1, z2⟩ := pld_sound hty' k2 h3
          rw [show bA (Nat.beq (slot X c τ).t 21) (Nat.beq (slot X c τ).t 21) = true by rw [bA_true, beq_t]; exact ⟨h1, h1⟩, cV_true]
          refine ⟨z, ?_, z2⟩
          unfold resS'
          simp only
          rw [k1, Sem.run_bind, asAddr_run, Result.andThen_ok]
          exact z1
        · simp [u0] at hok
      · rename_i hb
        rw [if_neg hb]
        have h0 : Ok (cT (aggT X.P t) (loadN (szOf X.P t)) load1 (cTmp X c τ) H) := hok
        have hv := cOpd_rel (o := .tmp c) h.R.hF h.R.hG (fun _ _ h => h) (load_ok h0)
        obtain ⟨m, m1, m2, z, z1, z2⟩ := load_sound h.R.hH hv hty' h0
        refine ⟨z, ?_, z2⟩
        unfold resS'
        simp only
        have m2' : a.tmps.getD c undef = .pointer (some ⟨m.c, (cTmp X c τ).b + m.q, none⟩) := m2
        rw [m2', Sem.run_bind, asAddr_run, Result.andThen_ok]
        exact z1
theorem resC_ok (h : RelE X rd [] NoU μ0 H0 w0 μ H w τ a) : ∀ (rs : List ResultVar) (k : List AV → Ans), (resC X rs).f τ H k = .done →
    ∃ vs xs, (rs.mapM (resS' a.tmps)).run X.P w = .ok xs w ∧ VRs μ vs xs ∧ k vs = .done
  | [], k, hok => ⟨[], [], rfl, .nil, hok⟩
  | r :: rs, k, hok => by
    have h0 : okA (resV X r τ H) ((resC X rs).f τ H (consR (resV X r τ H) k)) = .done := hok
    rw [okA_done] at h0
    obtain ⟨x, h1, h2⟩ := resV_ok h h0.1
    obtain ⟨vs, xs, k1, k2, k3⟩ := resC_ok h rs _ h0.2
    refine ⟨_, x :: xs, ?_, .cons h2 k2, k3⟩
    rw [List.mapM_cons, Sem.run_bind, h1, Result.andThen_ok, Sem.run_bind, k1]
    rfl
theorem res_ok {fn : Func} {kret : KR} (h : RelE X rd [] NoU μ0 H0 w0 μ H w τ a) (hok : (resC X fn.results.toList).f τ H (ret1 kret H) = .done) :
    ∃ v u, (results fn a.tmps).run X.P w = .ok v w ∧ VR μ u v ∧ kret u H = .done := by
  obtain ⟨vs, xs, h1, h2, h3⟩ := resC_ok h _ _ hok
  have hres : (results fn a.tmps).run X.P w = .ok (if hh : xs.length = 1 then xs[0] else .tuple ⟨xs⟩) w := by
    have e : results fn a.tmps = (do let vs ← fn.results.mapM (resS' a.tmps); pure (if h : vs.size = 1 then vs[0] else .tuple vs) : Sem Value) := rfl
    rw [e, Sem.run_bind, Array.mapM_eq_mapM_toList, Sem.run_map, h1]
    rfl
  have h3' : lA vs (kret (vTup []) H) (ret2 kret H vs) = .done := h3
  match vs, xs, h2, h3', hres with
  | [], [], h2, h3', hres => exact ⟨_, _, hres, .of_tup .nil, h3'⟩
  | [v], [x], h2, h3', hres =>
    obtain ⟨x', ys, e, hv, _⟩ := h2.cons_inv
    injection e with e1 e2; subst e1
    exact ⟨_, v, hres, hv, h3'⟩
  | v :: v' :: r, x :: x' :: ys, h2, h3', hres => exact ⟨_, vTup (v :: v' :: r), hres, .of_tup h2, h3'⟩
  | [], _ :: _, h2, _, _ => have := h2.1; simp at this
  | [_], [], h2, _, _ => have := h2.1; simp at this
  | [_], _ :: _ :: _, h2, _, _ => have := h2.1; simp at this
  | _ :: _ :: _, [], h2, _, _ => have := h2.1; simp at this
  | _ :: _ :: _, [_], h2, _, _ => have := h2.1; simp at this
end
end Go.Ev

/-! Proofs, part 29: calls of functions. -/
namespace Go.Ev
set_option linter.unusedVariables false
set_option linter.unusedSimpArgs false
section
variable {X : Cx} {μ μ0 : Mu} {w w0 : World} {H H0 : Heap} {τ : QT X.d} {a : Act} {rd : Option Nat} {P : Program} {ro : Nat}
def modeOf : Option Value → FrameMode
  | none => .returning
  | some x => .panicking [{ v := x, recovered := false }]
/-- how a deferred function may end: what it leaves of the panic -/
def DefOK (ro : Nat) (μ : Mu) (H : Heap) (w : World) (m : Option Value) (r : Ending) (u : FrameMode) (w' : World) (k : Option Value → Heap → Prop) : Prop :=
  ∃ v μ' H' m', r = .returned v ∧ settle u = modeOf m' ∧ HR μ' H' w' ∧ Ext ro μ H w μ' H' w' ∧ (m' = none ∨ m' = m) ∧ k m' H'
/-- deferred functions are safe -/
def DefsOK (P : Program) (ro : Nat) (fns : Nat → Option FnC) (call : CallT) : Prop :=
  ∀ f args H k μ w xs, HR μ H w → GR ro μ H → VRs μ args xs →
    (runDefK fns call f args (vTup []) H k = .done →
      (∃ fn, P.funcs[f]? = some fn ∧ fn.body.isNone = false ∧ (fn.name == "runtime.NumGoroutine") = false) ∧
      CallsDIn (Fr none) 0 P f ⟨xs⟩ .returning w fun e u w' => ∃ v r μ' H', e = .returned v ∧ u = .returning ∧ HR μ' H' w' ∧ Ext ro μ H w μ' H' w' ∧ k r H' = .done) ∧
    (∀ pv px, VR μ pv px → runDefK fns call f args (vTup [pv]) H k = .done →
      (∃ fn, P.funcs[f]? = some fn ∧ fn.body.isNone = false ∧ (fn.name == "runtime.NumGoroutine") = false) ∧
      CallsDIn (Fr none) 0 P f ⟨xs⟩ (.panicking [{ v := px, recovered := false }]) w fun e u w' => ∃ v r μ' H', e = .returned v ∧ HR μ' H' w' ∧ Ext ro μ H w μ' H' w' ∧ k r H' = .done ∧
        ((∃ p q, r.l = [p, q] ∧ settle u = .returning) ∨ ((∀ p q, r.l ≠ [p, q]) ∧ settle u = .panicking [{ v := px, recovered := false }])))
theorem leads_true {t : Target} {w : World} {args : Array Value} : ∀ g, t.leads P w args = some g → (Fr none).fn g := fun _ _ => trivial
theorem takeDeferred_run {r : Nat} (h : w.heap[r]? = some (.deferred (some []))) : (Instr.takeDeferred r).run P w = .ok [] (w.setB r (.deferred none)) := by
  unfold Instr.takeDeferred
  simp only [Sem.run_bind, getObj_run h (fun _ _ _ h => by cases h), Result.andThen_ok, setObj_run h (fun _ _ _ h => by cases h), Sem.run_pure]
/-- a function leaves: its deferred calls, its results -/
theorem leave_ok {fns : Nat → Option FnC} {call : CallT} {fc : FnC} {fn : Func} {kret kpan : KR} (hfc : fc.d = X.d) (hres : HEq fc.res (resC X fn.results.toList).f) (hD : DefsOK X.P X.ro fns call) :
    ∀ (ds : List AV) (es : List Deferred) (m : Option AV) (mx : Option Value) (μ : Mu) (H : Heap) (w : World), DR μ ds es → (match m, mx with | none, none => True | some v, some x => VR μ v x | _, _ => False) →
      RelE X none [] NoU μ0 H0 w0 μ H w τ a → leaveK fns call fc kret kpan ds m (hfc ▸ τ) H = .done →
      LeavesInM (Fr none) 0 X.P fn a.tmps (RetOK X.ro μ0 H0 w0 kret kpan) es (modeOf mx) w := by
  obtain ⟨nt, d, pb, body, bodyS, res⟩ := fc
  simp only at hfc
  subst hfc
  have hres' : res = (resC X fn.results.toList).f := eq_of_heq hres
  subst hres'
  intro ds
  induction ds with
  | nil =>
    intro es m mx μ H w hd hm h hok
    cases hd
    cases m with
    | none =>
      cases mx with
      | some x => exact hm.elim
      | none =>
        have h0 : (resC X fn.results.toList).f τ H (ret1 kret H) = .done := hok
        obtain ⟨v, u, h1, h2, h3⟩ := res_ok h h0
        exact ⟨v, h1, μ, H, u, h.R.hH, h.E, h2, h3⟩
    | some v =>
      cases mx with
      | none => exact hm.elim
      | some x =>
        have h0 : kpan v H = .done := hok
        exact ⟨μ, H, v, x, rfl, h.R.hH, h.E, hm, h0⟩
  | cons d ds ih =>
    intro es m mx μ H w hd hm h hok
    have hmode : modeOf mx ≠ .run := by cases mx <;> simp [modeOf]
    cases hd with
    | @mark b mb ds es args hb hds =>
      have h0 : cA (Nat.beq 3 3) (match axOf (hget H b) with
        | .dfr true => leaveK fns call ⟨nt, X.d, pb, body, bodyS, (resC X fn.results.toList).f⟩ kret kpan ds m τ (hset H b (bX (.dfr false)))
        | _ => .fail 232) (tA (vPtr b 0) 16 (match (generalizing := false) m with
          | none => runDefK fns call (vPtr b 0).a (appL (vPtr b 0).l (vPtr b 0).m) (vTup []) H fun _ H' => leaveK fns call ⟨nt, X.d, pb, body, bodyS, (resC X fn.results.toList).f⟩ kret kpan ds none τ H'
          | some v => runDefK fns call (vPtr b 0).a (appL (vPtr b 0).l (vPtr b 0).m) (vTup [v]) H fun r H' => tA r 22 (match r.l with
            | [_, _] => leaveK fns call ⟨nt, X.d, pb, body, bodyS, (resC X fn.results.toList).f⟩ kret kpan ds none τ H'
            | _ => leaveK fns call ⟨nt, X.d, pb, body, bodyS, (resC X fn.results.toList).f⟩ kret kpan ds (some v) τ H'))) = .done := hok
      rw [show Nat.beq 3 3 = true from rfl, cA_true] at h0
      have hn : axOf (hget H b) ≠ .none := fun e => by rw [e] at h0; cases h0
      obtain ⟨o, ho, hx, h3, hq⟩ := h.R.hH.x hb hn
      have hro : X.ro ≤ b := Nat.le_of_not_lt fun e => h.R.hG.not3 _ e h3
      generalize axOf (hget H b) = ax at h0 hx
      cases hx with
      | dfr op =>
        cases op with
        | false => cases h0
        | true =>
          have ho' : w.heap[mb.c]? = some (.deferred (some [])) := ho
          obtain ⟨g1, g2⟩ := h.R.hH.set (ro := X.ro) hb (by omega) hro (ab := bX (.dfr false)) (o := .deferred none) (.x rfl hq (.dfr false))
          exact ⟨hmode, .inl ⟨mb.c, _, rfl, takeDeferred_run ho', ih es m mx μ _ _ hds hm (h.ext g1 g2) h0⟩⟩
      | _ => cases h0
    | @fn f l mm xs ys ds es hl hmm hds =>
      have h0 : tA (vFn f l mm) 16 (match (generalizing := false) m with
          | none => runDefK fns call f (appL l mm) (vTup []) H fun _ H' => leaveK fns call ⟨nt, X.d, pb, body, bodyS, (resC X fn.results.toList).f⟩ kret kpan ds none τ H'
          | some v => runDefK fns call f (appL l mm) (vTup [v]) H fun r H' => tA r 22 (match r.l with
            | [_, _] => leaveK fns call ⟨nt, X.d, pb, body, bodyS, (resC X fn.results.toList).f⟩ kret kpan ds none τ H'
            | _ => leaveK fns call ⟨nt, X.d, pb, body, bodyS, (resC X fn.results.toList).f⟩ kret kpan ds (some v) τ H')) = .done := hok
      rw [tA_done] at h0
      have h1 := h0.2
      rw [appL_eq] at h1
      have hinv : ∀ {fn' : Func}, X.P.funcs[f]? = some fn' → fn'.body.isNone = false → (fn'.name == "runtime.NumGoroutine") = false →
          (invoke (.fn (.func f) ⟨ys⟩) ⟨xs⟩).run X.P w = .ok (.enter f ⟨xs ++ ys⟩) w := fun k1 k2 k3 => by
        show (callFunc f (⟨xs⟩ ++ ⟨ys⟩)).run X.P w = _
        rw [arr_app, callFunc_run k1 k2 k3]
      refine ⟨hmode, .inr ⟨(fun hd => by cases hd), .func f, ⟨ys⟩, f, ⟨xs ++ ys⟩, rfl, ?_, leads_true, ?_⟩⟩
      · cases m with
        | none =>
          obtain ⟨⟨fn', k1, k2, k3⟩, _⟩ := (hD f _ H _ μ w _ h.R.hH h.R.hG (hl.append hmm)).1 h1
          exact hinv k1 k2 k3
        | some v =>
          cases mx with
          | none => exact hm.elim
          | some x =>
            obtain ⟨⟨fn', k1, k2, k3⟩, _⟩ := (hD f _ H _ μ w _ h.R.hH h.R.hG (hl.append hmm)).2 v x hm h1
            exact hinv k1 k2 k3
      · cases m with
        | none =>
          cases mx with
          | some x => exact hm.elim
          | none =>
            obtain ⟨_, k4⟩ := (hD f _ H _ μ w _ h.R.hH h.R.hG (hl.append hmm)).1 h1
            refine k4.mono fun e u w' hr => ?_
            obtain ⟨v, r, μ', H', rfl, rfl, j1, j2, j3⟩ := hr
            exact ih es none none μ' H' w' (hds.mono j2.mu) trivial (h.ext j1 j2) j3
        | some v =>
          cases mx with
          | none => exact hm.elim
          | some x =>
            obtain ⟨_, k4⟩ := (hD f _ H _ μ w _ h.R.hH h.R.hG (hl.append hmm)).2 v x hm h1
            refine k4.mono fun e u w' hr => ?_
            obtain ⟨v', r, μ', H', rfl, j1, j2, j3, j4⟩ := hr
            rw [tA_done] at j3
            have j3' := j3.2
            rcases j4 with ⟨p, q, e1, e2⟩ | ⟨e1, e2⟩
            · rw [e1] at j3'
              show LeavesInM _ _ _ _ _ _ es (settle u) w'
              rw [e2]
              exact ih es none none μ' H' w' (hds.mono j2.mu) trivial (h.ext j1 j2) j3'
            · show LeavesInM _ _ _ _ _ _ es (settle u) w'
              rw [e2]
              refine ih es (some v) (some x) μ' H' w' (hds.mono j2.mu) (hm.mono j2.mu) (h.ext j1 j2) ?_
              split at j3'
              · rename_i p q hpq; exact absurd hpq (e1 p q)
              · exact j3'
end
end Go.Ev

/-! Proofs, part 30: calls of functions (2). -/
namespace Go.Ev
set_option linter.unusedVariables false
set_option linter.unusedSimpArgs false
section
variable {μ μ0 : Mu} {w w0 : World} {H H0 : Heap} {a : Act} {rd : Option Nat} {P : Program} {ro : Nat}
/-- what the program must be like -/
structure ProgOK (P : Program) (ro : Nat) : Prop where
  ng : ∀ (f : Nat) (fn : Func), P.funcs[f]? = some fn → fn.body.isNone = false → (fn.name == "runtime.NumGoroutine") = false
  mixed : P.follows .mixedOrders = true
theorem cFn_inv {f : Nat} {fc : FnC} (h : cFn P ro f = some fc) : ∃ fn c, P.funcs[f]? = some fn ∧ fn.body = some c ∧ fn.ntmps ≤ 500 ∧ fc = cFn2 (cxOf P ro fn c) f fn c := by
  unfold cFn at h
  split at h
  · cases h
  · rename_i fn hfn
    split at h
    · cases h
    · rename_i c hc
      rw [cT_eq] at h
      split at h
      · rename_i hn
        rw [ble_t] at hn
        cases h
        exact ⟨fn, c, hfn, hc, hn, rfl⟩
      · cases h
/-- the frame that a call begins with -/
theorem enter_ok {X : Cx} {vs : List AV} {xs : List Value} {k : QT X.d → Ans} (hd : X.nt + 2 ≤ 8 ^ X.d) (hH : HR μ H w) (hG : GR X.ro μ H) (hv : VRs μ vs xs) (h : argsK X.d X.nt X.pb vs 0 (qFill X.d) k = .done) :
    ∃ τ, k τ = .done ∧ RelE X none [] NoU μ H w μ H w τ { tmps := (⟨xs⟩ : Array Value) ++ Array.replicate (X.nt - (⟨xs⟩ : Array Value).size) undef, defers := [] } ∧
      (vs = [] ∨ vs.length ≤ X.nt) ∧ ∀ j, j < X.nt + 2 → qget X.d j τ = if j < vs.length then vs.getD j vX else undefA := by
  obtain ⟨τ, h1, h2, h3, h4⟩ := argsK_ok hd vs 0 (qFill X.d) k h
  have hl : vs = [] ∨ vs.length ≤ X.nt := by simpa using h2
  have hq : ∀ j, j < X.nt + 2 → qget X.d j τ = if j < vs.length then vs.getD j vX else undefA := fun j hj => by
    have := h3 j hj
    rw [qget_fill] at this
    simpa using this
  refine ⟨τ, h1, ⟨⟨frame_ok hd hv hl hq (fun j v hj hv => by simpa using h4 j v hj hv) _, (fun t ad _ _ hf _ _ _ => by cases hf), (fun ad had => by simp at had), hG, hH, Nat.le_refl _⟩, .refl _ _ _ _, fun h => by cases h⟩, hl, hq⟩
/-- a call, whatever shows that its body is safe -/
theorem fnBody_ok {call : CallT} (hP : ProgOK P ro) (hD : DefsOK P ro (cFn P ro) call) {f : Nat} {fn : Func} {c : Code} {xs : List Value} {kret kpan : KR} (h1 : P.funcs[f]? = some fn) (h2 : fn.body = some c) (h3 : fn.ntmps ≤ 500) {μ : Mu} {H : Heap} {w : World} {τ : QT (cxOf P ro fn c).d}
    (k2 : RelE (cxOf P ro fn c) none [] NoU μ H w μ H w τ { tmps := (⟨xs⟩ : Array Value) ++ Array.replicate ((cxOf P ro fn c).nt - (⟨xs⟩ : Array Value).size) undef, defers := [] })
    (hbody : ∀ Q, (∀ μ' H' w' τ' a', RelE (cxOf P ro fn c) none [] NoU μ H w μ' H' w' τ' a' → fnRet (cFn P ro) call (cFn2 (cxOf P ro fn c) f fn c) kret kpan τ' H' = .done → Q .normal a' w') →
      KxOK (cxOf P ro fn c) none μ H w (fnEx (cFn P ro) call (cFn2 (cxOf P ro fn c) f fn c) kret kpan) Q →
      c.wpIn (Fr none) 0 P Q { tmps := (⟨xs⟩ : Array Value) ++ Array.replicate ((cxOf P ro fn c).nt - (⟨xs⟩ : Array Value).size) undef, defers := [] } w) :
    CallsIn (Fr none) 0 P f ⟨xs⟩ w (RetOK ro μ H w kret kpan) := by
    refine callsIn_of_wp_marks h1 h2 trivial ?_ rfl
    have hleave : ∀ (m : Option AV) (mx : Option Value) μ' H' w' (τ' : QT (cxOf P ro fn c).d) a', (match (generalizing := false) m, mx with | none, none => True | some v, some x => VR μ' v x | _, _ => False) →
        RelE (cxOf P ro fn c) none [] NoU μ H w μ' H' w' τ' a' → ((gt (cxOf P ro fn c).d (cxOf P ro fn c).nt).f τ').t = 22 →
        leaveK (cFn P ro) call (cFn2 (cxOf P ro fn c) f fn c) kret kpan ((gt (cxOf P ro fn c).d (cxOf P ro fn c).nt).f τ').l m τ' H' = .done →
        LeavesInM (Fr none) 0 P fn a'.tmps (RetOK ro μ H w kret kpan) a'.defers (modeOf mx) w' := fun m mx μ' H' w' τ' a' hm hr ht ho =>
      leave_ok (X := cxOf P ro fn c) (fc := cFn2 (cxOf P ro fn c) f fn c) rfl HEq.rfl hD _ _ m mx μ' H' w' (hr.R.hF.df ht) hm hr ho
    have hret : ∀ μ' H' w' (τ' : QT (cxOf P ro fn c).d) a', RelE (cxOf P ro fn c) none [] NoU μ H w μ' H' w' τ' a' → fnRet (cFn P ro) call (cFn2 (cxOf P ro fn c) f fn c) kret kpan τ' H' = .done →
        LeavesInM (Fr none) 0 P fn a'.tmps (RetOK ro μ H w kret kpan) a'.defers .returning w' := by
      intro μ' H' w' τ' a' hr ho
      have ho' : tA ((gt (cxOf P ro fn c).d (cxOf P ro fn c).nt).f τ') 22 (lA ((gt (cxOf P ro fn c).d (cxOf P ro fn c).nt).f τ').l ((resC (cxOf P ro fn c) fn.results.toList).f τ' H' (ret1 kret H'))
        (fun _ _ => leaveK (cFn P ro) call (cFn2 (cxOf P ro fn c) f fn c) kret kpan ((gt (cxOf P ro fn c).d (cxOf P ro fn c).nt).f τ').l none τ' H')) = .done := ho
      rw [tA_done] at ho'
      refine hleave none none μ' H' w' τ' a' trivial hr ho'.1 ?_
      have ho2 := ho'.2
      generalize ((gt (cxOf P ro fn c).d (cxOf P ro fn c).nt).f τ').l = l at ho2 ⊢
      cases l with
      | nil => exact ho2
      | cons v r => exact ho2
    refine hbody _ ?_ ?_
    · intro μ' H' w' τ' a' hr ho
      exact hret μ' H' w' τ' a' hr ho
    · intro μ' H' w' τ' a' hr
      refine ⟨(fun id ho => by cases ho), fun ho => hret μ' H' w' τ' a' hr ho, fun v x hv' ho => ?_⟩
      have ho' : tA ((gt (cxOf P ro fn c).d (cxOf P ro fn c).nt).f τ') 22 (leaveK (cFn P ro) call (cFn2 (cxOf P ro fn c) f fn c) kret kpan ((gt (cxOf P ro fn c).d (cxOf P ro fn c).nt).f τ').l (some v) τ' H') = .done := ho
      rw [tA_done] at ho'
      exact hleave (some v) (some x) μ' H' w' τ' a' hv' hr ho'.1 ho'.2
theorem fnCall_ok {call : CallT} (hP : ProgOK P ro) (hcode : ∀ (X : Cx) (rd : Option Nat) (fn : Nat) (c : Code), X.P = P → X.ro = ro → CodeOK X rd c (comp X fn c).run) (hK : CallOK P ro call) (hD : DefsOK P ro (cFn P ro) call)
    {f : Nat} {args : List AV} {xs : List Value} {kret kpan : KR} (hok : fnCall P ro (cFn P ro) call f args H kret kpan = .done) (hH : HR μ H w) (hG : GR ro μ H) (hv : VRs μ args xs) :
    (∃ fn, P.funcs[f]? = some fn ∧ fn.body.isNone = false ∧ (fn.name == "runtime.NumGoroutine") = false) ∧ CallsIn (Fr none) 0 P f ⟨xs⟩ w (RetOK ro μ H w kret kpan) := by
  unfold fnCall at hok
  split at hok
  · cases hok
  · rename_i fc hfc
    obtain ⟨fn, c, h1, h2, h3, rfl⟩ := cFn_inv hfc
    have hbn : fn.body.isNone = false := by rw [h2]; rfl
    refine ⟨⟨fn, h1, hbn, hP.ng f fn h1 hbn⟩, ?_⟩
    have hd : (cxOf P ro fn c).nt + 2 ≤ 8 ^ (cxOf P ro fn c).d := by
      show fn.ntmps + 2 ≤ 8 ^ depthOf (Nat.add fn.ntmps 2)
      exact depth_ok (by omega)
    obtain ⟨τ, k1, k2, _, _⟩ := enter_ok (X := cxOf P ro fn c) hd hH hG hv hok
    exact fnBody_ok hP hD h1 h2 h3 k2 fun Q hkn hkx => hcode (cxOf P ro fn c) none f c rfl rfl call _ _ Q μ H w μ H w τ _ hK k2 k1 hkn hkx
end
end Go.Ev

/-! Proofs, part 31: ranges over functions: a round. -/
namespace Go.Ev
set_option linter.unusedVariables false
set_option linter.unusedSimpArgs false
section
variable {μ μ0 : Mu} {w w0 : World} {H H0 : Heap} {a : Act} {rd : Option Nat} {P : Program} {ro : Nat}
/-- the loop's record -/
theorem getLoopK_done {H : Heap} {l : Nat} {k : Nat → Option Jmp → (d : Nat) → QT d → List Nat → Code → Code → Nat → Nat → Nat → Ans} (h : getLoopK H l k = .done) :
    ∃ st pend d tm ps asg body fn db nt, axOf (hget H l) = .loop st pend d tm ps asg body fn db nt ∧ k st pend d tm ps asg body fn db nt = .done := by
  unfold getLoopK at h
  split at h
  · rename_i st pend d tm ps asg body fn db nt e
    exact ⟨st, pend, d, tm, ps, asg, body, fn, db, nt, e, h⟩
  · cases h
/-- its relation -/
theorem loop_rel (hH : HR μ H w) {l : Nat} {m : MB} (hm : μ l = some m) {st : Nat} {pend : Option Jmp} {d : Nat} {tm : QT d} {ps : List Nat} {asg body : Code} {fn db nt : Nat} (hx : axOf (hget H l) = .loop st pend d tm ps asg body fn db nt) :
    ∃ (md : MB) (tmps : Array Value) (fn' : Nat), w.heap[m.c]? = some (.loop { state := stC st, pending := pend.map jmpC, fn := fn', tmps := tmps, params := ⟨ps⟩, assign := asg, body := body, defers := md.c }) ∧
      st ≤ 3 ∧ μ db = some md ∧ nt + 2 ≤ 8 ^ d ∧ tmps.size = nt ∧ (∀ t, t < nt → Ok (qget d t tm) → VR μ (qget d t tm) (tmps.getD t undef)) ∧ (hget H l).t = 3 ∧ m.q = 0 := by
  obtain ⟨o, h1, h2, h3, h4⟩ := hH.x hm (by rw [hx]; intro e; cases e)
  rw [hx] at h2
  generalize hax : AX.loop st pend d tm ps asg body fn db nt = ax at h2
  cases h2 with
  | loop st' pend' d' tm' ps' asg' body' fn'' fn' db' nt' md tmps hst hdb hd hsz htm =>
    cases hax
    exact ⟨md, tmps, fn', h1, hst, hdb, hd, hsz, htm, h3, h4⟩
  | _ => cases hax
theorem getLoop_run {r : Nat} {L : Loop} (h : w.heap[r]? = some (.loop L)) : (Instr.getLoop r).run P w = .ok L w := by
  unfold Instr.getLoop
  simp only [Sem.run_bind, getObj_run h (fun _ _ _ h => by cases h), Result.andThen_ok, Sem.run_pure]
/-- parameters into the temporaries -/
theorem psetK_ok {d nt : Nat} (hd : nt + 2 ≤ 8 ^ d) : ∀ (ps : List Nat) (vs : List AV) (xs : List Value) (t : QT d) (ts : Array Value) (k : QT d → Ans), psetK d nt ps vs t k = .done → VRs μ vs xs → ts.size = nt →
    (∀ j, j < nt → Ok (qget d j t) → VR μ (qget d j t) (ts.getD j undef)) →
    ∃ τ, k τ = .done ∧ ps.length = xs.length ∧ ((ps.zip xs).foldl (fun (ts : Array Value) (p : Nat × Value) => ts.setIfInBounds p.1 p.2) ts).size = nt ∧
      (∀ j, j < nt → Ok (qget d j τ) → VR μ (qget d j τ) (((ps.zip xs).foldl (fun (ts : Array Value) (p : Nat × Value) => ts.setIfInBounds p.1 p.2) ts).getD j undef)) := by
  intro ps
  induction ps with
  | nil =>
    intro vs xs t ts k h hv hs ht
    cases vs with
    | nil =>
      have := hv.nil_inv; subst this
      exact ⟨t, h, rfl, hs, ht⟩
    | cons v vs => cases h
  | cons p ps ih =>
    intro vs xs t ts k h hv hs ht
    cases vs with
    | nil => cases h
    | cons v vs =>
      obtain ⟨x, ys, rfl, hvx, hvs⟩ := hv.cons_inv
      have h0 : cA (Nat.ble (Nat.succ p) nt) ((st d p).f t v fun t' => psetK d nt ps vs t' k) (.fail 227) = .done := h
      rw [cA_done, ble_t, st_eq] at h0
      obtain ⟨h1, h2⟩ := h0
      have h1 : p < nt := h1
      obtain ⟨τ, k1, k2, k3, k4⟩ := ih vs ys (qset d p t v) (ts.setIfInBounds p x) k h2 hvs (by simpa using hs) (fun j hj ho => by
        rw [qget_qset _ _ _ _ _ (by omega) (by omega)] at ho ⊢
        rw [getD_set _ _ _ _ (by omega)]
        by_cases e : j = p
        · rw [if_pos e, if_pos e]; exact hvx
        · rw [if_neg e] at ho ⊢; rw [if_neg e]; exact ht j hj ho)
      exact ⟨τ, k1, by simp [k2], k3, k4⟩
theorem rnd_end {l : Nat} {kret : KR} {st' : Nat} {pj : Option Jmp} {r : AV} {rv : Value} {d : Nat} {m : MB} (hst : st' ≤ 3) (hH : HR μ H w) (hG : GR ro μ H) (hm : μ l = some m) (E : Ext ro μ0 H0 w0 μ H w)
    (hok : rndEnd P ro l kret (d := d) st' pj r H = .done) (hr : ∀ μ, VR μ r rv) (hrun : ∀ L : Loop, w.heap[m.c]? = some (.loop L) →
      (Instr.endRound m.c (pj.map jmpC)).run P w = .ok rv (w.setB m.c (.loop { L with state := stC st', pending := pj.map jmpC }))) {kpan : KR} :
    ∃ v w', (Instr.endRound m.c (pj.map jmpC)).run P w = .ok v w' ∧ RetOK ro μ0 H0 w0 kret kpan (.returned v) w' := by
  unfold rndEnd at hok
  obtain ⟨st, pend, d', tm, ps, asg, body, fn, db, nt, hx, hk⟩ := getLoopK_done hok
  obtain ⟨md, tmps, fn', k1, k2, k3, k4, k5, k6, k7, k8⟩ := loop_rel hH hm hx
  have hro : ro ≤ l := Nat.le_of_not_lt fun e => hG.not3 _ e k7
  obtain ⟨g1, g2⟩ := hH.set (ro := ro) hm (by omega) hro (ab := bX (.loop st' pj d' tm ps asg body fn db nt))
    (o := .loop { state := stC st', pending := pj.map jmpC, fn := fn', tmps := tmps, params := ⟨ps⟩, assign := asg, body := body, defers := md.c })
    (.x rfl k8 (.loop st' pj d' tm ps asg body fn fn' db nt md tmps hst k3 k4 k5 k6))
  exact ⟨rv, _, hrun _ k1, μ, _, r, g1, E.trans g2, hr μ, hk⟩
theorem endRound_run {c : Nat} {L : Loop} {jump : Option Code} (h : w.heap[c]? = some (.loop L)) :
    (Instr.endRound c jump).run P w = .ok (.bool jump.isNone) (w.setB c (.loop { L with state := if jump.isNone then .ready else .done, pending := jump })) := by
  unfold Instr.endRound
  simp only [Sem.run_bind, getLoop_run h, Result.andThen_ok, setObj_run h (fun _ _ _ h => by cases h), Sem.run_pure]
theorem beginRound_run {c : Nat} {L : Loop} (h : w.heap[c]? = some (.loop L)) (hs : L.state = .ready) : (Instr.beginRound c).run P w = .ok () (w.setB c (.loop { L with state := .busy })) := by
  unfold Instr.beginRound
  simp only [Sem.run_bind, getLoop_run h, Result.andThen_ok, setObj_run h (fun _ _ _ h => by cases h), hs, Sem.run_pure]
/-- a round -/
theorem yield_ok {call : CallT} (hcode : ∀ (X : Cx) (rd : Option Nat) (fn : Nat) (c : Code), X.P = P → X.ro = ro → CodeOK X rd c (comp X fn c).run) (hK : CallOK P ro call)
    {l : Nat} {m : MB} {args : List AV} {xs : List Value} {kret kpan : KR} (hok : yieldK P ro call l args H kret kpan = .done) (hH : HR μ H w) (hG : GR ro μ H) (hm : μ l = some m) (hv : VRs μ args xs) :
    ∃ f ts asg body, (Instr.yield m.c ⟨xs⟩).run P w = .ok (.round m.c f ts asg body) w ∧ RoundIn (Fr none) 0 P m.c f ts asg body w (RetOK ro μ H w kret kpan) := by
  unfold yieldK at hok
  obtain ⟨st, pend, d, tm, ps, asg, body, fn, db, nt, hx, hk⟩ := getLoopK_done hok
  obtain ⟨md, tmps, fn', k1, k2, k3, k4, k5, k6, k7, k8⟩ := loop_rel hH hm hx
  obtain ⟨τ0, j1, j2, j3, j4⟩ := psetK_ok k4 ps args xs tm tmps _ hk hv k5 k6
  rw [st_eq] at j1
  refine ⟨fn', ((⟨ps⟩ : Array Nat).zip ⟨xs⟩).foldl (fun (ts : Array Value) (p : Nat × Value) => ts.setIfInBounds p.1 p.2) tmps, asg, body, ?_, roundIn_of_wpIn (F := Fr none) trivial ?_⟩
  · unfold Instr.yield
    simp only [Sem.run_bind, getLoop_run k1, Result.andThen_ok]
    rw [if_neg (by simp [j2])]
    rfl
  · let X : Cx := ⟨P, ro, nt, d, 0, 0⟩
    have hrel : RelE X (some m.c) [] NoU μ H w μ H w (qset d nt τ0 vNils) { tmps := (((⟨ps⟩ : Array Nat).zip ⟨xs⟩).foldl (fun (ts : Array Value) (p : Nat × Value) => ts.setIfInBounds p.1 p.2) tmps), defers := [] } := by
      have ez : ((⟨ps⟩ : Array Nat).zip ⟨xs⟩).foldl (fun (ts : Array Value) (p : Nat × Value) => ts.setIfInBounds p.1 p.2) tmps = (ps.zip xs).foldl (fun (ts : Array Value) (p : Nat × Value) => ts.setIfInBounds p.1 p.2) tmps := by
        rw [← Array.foldl_toList]; simp
      rw [ez]
      have g : ∀ j, j < nt → qget d j (qset d nt τ0 vNils) = qget d j τ0 := fun j hj => by rw [qget_qset _ _ _ _ _ (by omega) (by omega), if_neg (by omega)]
      have gn : qget d nt (qset d nt τ0 vNils) = vNils := by rw [qget_qset _ _ _ _ _ (by omega) (by omega), if_pos rfl]
      refine ⟨⟨⟨j3, k4, fun t _ hp ho => ?_, (fun t _ _ hb _ => by simp [X] at hb), (fun t t' _ _ _ _ hb _ _ _ _ => by simp [X] at hb), fun h => ?_⟩, (fun t ad _ _ hf _ _ _ => by cases hf), (fun ad had => by simp at had), hG, hH, Nat.le_refl _⟩, .refl _ _ _ _, fun _ => ?_⟩
      · have ht : t < nt := (isPlain_inv hp).1
        have ho' : Ok (qget d t (qset d nt τ0 vNils)) := ho
        show VR μ (qget d t (qset d nt τ0 vNils)) _
        rw [g t ht] at ho' ⊢; exact j4 t ht ho'
      · have h' : (qget d nt (qset d nt τ0 vNils)).t = 22 := h
        rw [gn] at h'; cases h'
      · show (qget d nt (qset d nt τ0 vNils)).t ≠ 22
        rw [gn]; decide
    refine hcode X (some m.c) fn asg rfl rfl call (rndBody P ro call l kret kpan d nt fn body) (fun _ _ _ => .fail 236) _ μ H w μ H w _ _ hK hrel j1 ?_ ?_
    · intro μ1 H1 w1 τ1 a1 h1 ho
      have ho' : rndBody P ro call l kret kpan d nt fn body τ1 H1 = .done := ho
      unfold rndBody at ho'
      obtain ⟨st', pend', d', tm', ps', asg', body', fn2, db', nt', hx', hk'⟩ := getLoopK_done ho'
      have hm1 := h1.E.mu _ _ hm
      obtain ⟨md', tmps', fn3, q1, q2, q3, q4, q5, q6, q7, q8⟩ := loop_rel h1.R.hH hm1 hx'
      rw [cA_done, beq_t] at hk'
      obtain ⟨rfl, hk2⟩ := hk'
      have hro : ro ≤ l := Nat.le_of_not_lt fun e => h1.R.hG.not3 _ e q7
      obtain ⟨g1, g2⟩ := h1.R.hH.set (ro := ro) hm1 (by omega) hro (ab := bX (.loop 1 pend' d' tm' ps' asg' body' fn2 db' nt'))
        (o := .loop { state := .busy, pending := pend'.map jmpC, fn := fn3, tmps := tmps', params := ⟨ps'⟩, assign := asg', body := body', defers := md'.c })
        (.x rfl q8 (.loop 1 pend' d' tm' ps' asg' body' fn2 fn3 db' nt' md' tmps' (by omega) q3 q4 q5 q6))
      refine ⟨_, beginRound_run q1 rfl, ?_⟩
      refine hcode X (some m.c) fn body rfl rfl call (fun _ H3 => rndEnd P ro l kret (d := d) 0 none vT H3) (rndEx P ro l kret kpan (d := d)) _ μ H w μ1 _ _ τ1 a1 hK (h1.ext g1 g2) hk2 ?_ ?_
      · intro μ2 H2 w2 τ2 a2 h2 ho2
        refine rnd_end (kpan := kpan) (pj := none) (st' := 0) (rv := .bool true) (by omega) h2.R.hH h2.R.hG (h2.E.mu _ _ hm) h2.E ho2 (fun _ => .t) ?_
        intro L hL
        rw [show (Option.map jmpC none : Option Code) = none from rfl, endRound_run hL]
        rfl
      · intro μ2 H2 w2 τ2 a2 h2
        have key : ∀ (j : Jmp), rndEnd P ro l kret (d := d) 2 (some j) vF H2 = .done → ∃ v w', (Instr.endRound m.c (some (jmpC j))).run P w2 = .ok v w' ∧ RetOK ro μ H w kret kpan (.returned v) w' := by
          intro j ho2
          refine rnd_end (kpan := kpan) (pj := some j) (st' := 2) (rv := .bool false) (by omega) h2.R.hH h2.R.hG (h2.E.mu _ _ hm) h2.E ho2 (fun _ => .f) ?_
          intro L hL
          rw [show (Option.map jmpC (some j) : Option Code) = some (jmpC j) from rfl, endRound_run hL]
          rfl
        exact ⟨fun id ho2 => key (.exit id) ho2, fun ho2 => key .ret ho2, (fun v x _ ho2 => by cases ho2)⟩
    · intro μ1 H1 w1 τ1 a1 h1
      exact ⟨(fun id ho => by cases ho), (fun ho => by cases ho), (fun v x _ ho => by cases ho)⟩
end
end Go.Ev

/-! Proofs, part 32: ranges over functions. -/
namespace Go.Ev
set_option linter.unusedVariables false
set_option linter.unusedSimpArgs false
section
variable {X : Cx} {μ μ0 : Mu} {w w0 : World} {H H0 : Heap} {τ : QT X.d} {a : Act} {rd : Option Nat} {P : Program} {ro : Nat} {U : Nat → Prop} {base : Nat}
theorem FR.mark {d : Deferred} {v : AV} (h : FR X base U μ w τ a) (ht : (qget X.d X.nt τ).t = 22) (hd : DR μ (v :: (qget X.d X.nt τ).l) (d :: a.defers)) :
    FR X base U μ w (qset X.d X.nt τ (vTup (v :: (qget X.d X.nt τ).l))) { a with defers := [d] ++ a.defers } := h.defer ht hd
theorem stC_busy {st : Nat} (h : st ≤ 3) (h1 : st ≠ 1) : stC st ≠ .busy := by
  match st, h, h1 with
  | 0, _, _ => simp [stC]
  | 2, _, _ => simp [stC]
  | 3, _, _ => simp [stC]
theorem endLoop_run {c : Nat} {L : Loop} (h : w.heap[c]? = some (.loop L)) (hs : L.state ≠ .busy) : (Instr.endLoop c).run P w = .ok L.pending (w.setB c (.loop { L with state := .exhausted })) := by
  unfold Instr.endLoop
  have hb : (L.state == LoopState.busy) = false := by
    cases hst : L.state <;> first | rfl | exact absurd hst hs
  simp only [Sem.run_bind, getLoop_run h, Result.andThen_ok, hb, Bool.false_eq_true, if_false, setObj_run h (fun _ _ _ h => by cases h), Sem.run_pure]
theorem range_ok {fn : Nat} {g : Operand} {ps : Array Tmp} {asg body : Code} (hpb : X.pb = 0) (had : X.ad = 0) : CodeOK X rd (.rangeFunc g ps asg body) (xRange X fn (cOpd X g) ps.toList asg body) := by
  intro call kn kx Q μ0 H0 w0 μ H w τ a hK h hok hkn hkx
  unfold xRange at hok
  rw [tA_done, tA_done, hnewK_done, hnewK_done, gt_eq, st_eq] at hok
  obtain ⟨h1, h2, h3, h4, h5⟩ := hok
  have hrd : rd = none := by
    cases hr : rd with
    | none => rfl
    | some l => exact absurd h1 (h.D (by rw [hr]; rfl))
  subst hrd
  refine wpIn_rangeFunc ?_
  intro fn' _
  have hfv := cOpd_rel (o := g) h.R.hF h.R.hG (fun _ _ h => h) (ok3 h2 (by decide))
  obtain ⟨xs, ys, e1, e2, e3, _⟩ := hfv.inv_fn h2
  -- the block of the deferred calls
  obtain ⟨g1, g2⟩ := h.R.hH.alloc (ro := X.ro) h3 (ab := bX (.dfr true)) (m := ⟨w.heap.size, 0, 0, 0⟩) (o := .deferred (some [])) rfl (.x rfl rfl (.dfr true))
  have r1 := h.ext g1 g2
  have hdb : (μ.put H.nx ⟨w.heap.size, 0, 0, 0⟩) H.nx = some ⟨w.heap.size, 0, 0, 0⟩ := by simp [Mu.put]
  have hplain : ∀ t, t < X.nt → isPlain X t = true := fun t ht => by
    unfold isPlain
    rw [bA_true, bA_true, ble_t, hpb, had]
    exact ⟨ht, by simp, by simp⟩
  -- the record
  obtain ⟨g3, g4⟩ := g1.alloc (ro := X.ro) h4 (ab := bX (.loop 0 none X.d τ ps.toList asg body fn H.nx X.nt)) (m := ⟨(w.alloc (.deferred (some []))).heap.size, 0, 0, 0⟩)
    (o := .loop { state := .ready, pending := none, fn := fn', tmps := a.tmps, params := ⟨ps.toList⟩, assign := asg, body := body, defers := w.heap.size }) rfl
    (.x rfl rfl (.loop 0 none X.d τ ps.toList asg body fn fn' H.nx X.nt ⟨w.heap.size, 0, 0, 0⟩ a.tmps (by omega) (Mu.put_le g1.none _ _ hdb) h.R.hF.dp h.R.hF.sz (fun t ht ho => ((r1.R.hF.tm t (fun h => h) (hplain t ht) ho)).mono (Mu.put_le g1.none))))
  have r2 := r1.ext g3 g4
  have hl : ((μ.put H.nx ⟨w.heap.size, 0, 0, 0⟩).put (hnew H (bX (.dfr true))).nx ⟨(w.alloc (.deferred (some []))).heap.size, 0, 0, 0⟩) (hnew H (bX (.dfr true))).nx = some ⟨(w.alloc (.deferred (some []))).heap.size, 0, 0, 0⟩ := by simp [Mu.put]
  have hle := (Mu.put_le (m := (⟨(w.alloc (.deferred (some []))).heap.size, 0, 0, 0⟩ : MB)) g1.none)
  have hle0 := g2.mu
  -- the mark
  have hdr : DR ((μ.put H.nx ⟨w.heap.size, 0, 0, 0⟩).put (hnew H (bX (.dfr true))).nx ⟨(w.alloc (.deferred (some []))).heap.size, 0, 0, 0⟩) (vPtr H.nx 0 :: (qget X.d X.nt τ).l) ({ target := .collected w.heap.size, args := #[] } :: a.defers) :=
    .mark (m := ⟨w.heap.size, 0, 0, 0⟩) (hle _ _ hdb) (r2.R.hF.df h1)
  have r3 : RelE X none [] NoU μ0 H0 w0 _ _ _ (qset X.d X.nt τ (vTup (vPtr H.nx 0 :: (qget X.d X.nt τ).l))) { a with defers := [{ target := .collected w.heap.size, args := #[] }] ++ a.defers } :=
    ⟨⟨r2.R.hF.mark h1 hdr, r2.R.hA.defer r2.R.hF, r2.R.hE, r2.R.hG, r2.R.hH, r2.R.hb⟩, r2.E, fun hh => by cases hh⟩
  -- the call
  rw [appL_eq] at h5
  have hargs := (e2.mono hle0).mono hle |>.append (VRs.cons (VR.yld _ _ hl) ((e3.mono hle0).mono hle))
  obtain ⟨⟨fnn, k1, k2, k3⟩, k4⟩ := hK.fn _ _ _ _ _ _ _ _ h5 r2.R.hH r2.R.hG hargs
  refine ⟨(w.alloc (.deferred (some []))).heap.size, [{ target := .collected w.heap.size, args := #[] }], (w.alloc (.deferred (some []))).alloc (.loop { state := .ready, pending := none, fn := fn', tmps := a.tmps, params := ps, assign := asg, body := body, defers := w.heap.size }),
    { target := .fn (.func (cOpd X g τ).a) ⟨ys⟩, args := ⟨xs ++ [.func (.yield (w.alloc (.deferred (some []))).heap.size) #[] #[]]⟩ }, (w.alloc (.deferred (some []))).alloc (.loop { state := .ready, pending := none, fn := fn', tmps := a.tmps, params := ps, assign := asg, body := body, defers := w.heap.size }), (cOpd X g τ).a, ⟨xs ++ .func (.yield (w.alloc (.deferred (some []))).heap.size) #[] #[] :: ys⟩, (w.alloc (.deferred (some []))).alloc (.loop { state := .ready, pending := none, fn := fn', tmps := a.tmps, params := ps, assign := asg, body := body, defers := w.heap.size }), ?_, ?_, fun _ _ => trivial, ?_, (fun hd => by cases hd), ?_⟩
  · show (Instr.enterLoop fn' a.tmps ps asg body none).run X.P w = _
    unfold Instr.enterLoop
    simp only [Sem.run_bind, run_newObj, Result.andThen_ok, Sem.run_pure]
    rfl
  · unfold resolve rangeCall
    simp only [Deferred.ofValue, e1, Sem.run_pure]
    congr 2
    simp [Act.eval]
  · show (callFunc _ (⟨xs ++ [.func (.yield (w.alloc (.deferred (some []))).heap.size) #[] #[]]⟩ ++ ⟨ys⟩)).run X.P _ = _
    rw [callFunc_run k1 k2 k3]
    congr 2
    simp
  · have k5 := callsIn_fr (rd' := none) k4
    refine k5.mono fun e w' hr => ?_
    cases e with
    | outgrown => exact hr.elim
    | panicked chain =>
      obtain ⟨μ', H', u, x, rfl, j1, j2, j3, j4⟩ := hr
      exact (hkx _ _ _ _ _ (r3.ext j1 j2)).2.2 u x j3 j4
    | returned v =>
      obtain ⟨μ', H', u, j1, j2, j3, j4⟩ := hr
      have j4' : rangeEnd (hnew H (bX (.dfr true))).nx kn kx (qset X.d X.nt τ (vTup (vPtr H.nx 0 :: (qget X.d X.nt τ).l))) u H' = .done := j4
      unfold rangeEnd at j4'
      obtain ⟨st, pend, d', tm, ps', asg', body', fn2, db, nt, hx, hk⟩ := getLoopK_done j4'
      have hl' := j2.mu _ _ hl
      obtain ⟨md, tmps, fn3, q1, q2, q3, q4, q5, q6, q7, q8⟩ := loop_rel j1 hl' hx
      have r4 := r3.ext j1 j2
      rcases cA_cases hk with ⟨_, hk2⟩ | ⟨hst, hk2⟩
      · cases hk2
      have hst' : st ≠ 1 := fun e => by rw [e] at hst; cases hst
      have hro : X.ro ≤ (hnew H (bX (.dfr true))).nx := Nat.le_of_not_lt fun e => r4.R.hG.not3 _ e q7
      obtain ⟨s1, s2⟩ := j1.set (ro := X.ro) hl' (by omega) hro (ab := bX (.loop 3 pend d' tm ps' asg' body' fn2 db nt))
        (o := .loop { state := .exhausted, pending := pend.map jmpC, fn := fn3, tmps := tmps, params := ⟨ps'⟩, assign := asg', body := body', defers := md.c })
        (.x rfl q8 (.loop 3 pend d' tm ps' asg' body' fn2 fn3 db nt md tmps (by omega) q3 q4 q5 q6))
      have r5 := r4.ext s1 s2
      refine ⟨pend.map jmpC, _, endLoop_run q1 (stC_busy q2 hst'), ?_⟩
      cases pend with
      | none => exact hkn _ _ _ _ _ r5 hk2
      | some j =>
        cases j with
        | goto _ => cases hk2
        | exit id => exact wpIn_exit ((hkx _ _ _ _ _ r5).1 id hk2)
        | ret => exact wpIn_ret ((hkx _ _ _ _ _ r5).2.1 hk2)
end
end Go.Ev

/-! Proofs, part 33: towards regions that draw: blocks that are made in the evaluator's order and not yet in the machine's. -/
namespace Go.Ev
set_option linter.unusedVariables false
set_option linter.unusedSimpArgs false
section
variable {μ μ0 : Mu} {w w0 : World} {H H0 : Heap} {ro : Nat}
/-- a block that is made in the abstract heap alone -/
theorem HR.phantom (h : HR μ H w) (hx : H.nx ≤ 65534) (ab : AB) : HR μ (hnew H ab) w := by
  have g : ∀ b, b < 65536 → hget (hnew H ab) b = if b = H.nx then ab else hget H b := fun b hb' => hget_hnew H b ab (by omega) hb'
  have k : ∀ b m, μ b = some m → hget (hnew H ab) b = hget H b := fun b m hb => by
    have := (h.dom b m hb).1
    rw [g b (h.lt hb), if_neg (by omega)]
  refine ⟨fun b m hb => ⟨by have := (h.dom b m hb).1; simp; omega, (h.dom b m hb).2⟩, fun b m hb hl => ?_, fun b b' m m' h1 h2 l1 l2 e => ?_, by simp; omega, fun b h1 h2 => ?_⟩
  · rw [k b m hb] at hl ⊢; exact h.blk b m hb hl
  · rw [k b m h1] at l1; rw [k b' m' h2] at l2; exact h.inj b b' m m' h1 h2 l1 l2 e
  · simp only [hnew_nx] at h1
    rw [g b h2, if_neg (by omega)]
    exact h.fresh b (by omega) h2
theorem Ext.phantom (h : Ext ro μ0 H0 w0 μ H w) (hH : HR μ H w) (hx : H.nx ≤ 65534) (ab : AB) : Ext ro μ0 H0 w0 μ (hnew H ab) w := by
  have g : ∀ b, b < 65536 → hget (hnew H ab) b = if b = H.nx then ab else hget H b := fun b hb' => hget_hnew H b ab (by omega) hb'
  refine ⟨h.mu, h.nw, by have := h.nx; simp; omega, fun b h1 h2 => ?_, h.sz, h.cb, fun b m h1 h2 h3 => ?_, h.like⟩
  · have := h.nx
    rw [g b (by omega), if_neg (by omega)]; exact h.ab b h1 h2
  · have h4 := h.ro b m h1 h2 h3
    have := (hH.dom _ _ (h.mu _ _ h2)).1
    rw [g b (by omega), if_neg (by omega)]; exact h4
/-- .. and now in the machine's -/
theorem HR.appear (h : HR μ H w) {b : Nat} (hb : μ b = Option.none) (hn : b < H.nx) {m : MB} {o : Obj} (hc : m.c = w.heap.size) (hbr : BR (μ.put b m) (hget H b) m o) : HR (μ.put b m) H (w.alloc o) := by
  have hle := Mu.put_le (m := m) hb
  have old : ∀ b' m', (μ.put b m) b' = some m' → b' ≠ b → μ b' = some m' := fun b' m' hb' e => by simpa [Mu.put, e] using hb'
  have new : ∀ m', (μ.put b m) b = some m' → m' = m := fun m' hb' => by simpa [Mu.put] using hb'.symm
  have hl : ∀ c, c < w.heap.size → (w.alloc o).heap[c]? = w.heap[c]? := fun c hc => by rw [alloc_get, if_neg (by omega)]
  refine ⟨fun b' m' hb' => ?_, fun b' m' hb' hlv => ?_, fun b1 b2 m1 m2 h1 h2 l1 l2 e => ?_, h.nx, h.fresh⟩
  · by_cases e : b' = b
    · subst e; rw [new _ hb']; simp; omega
    · have := h.dom b' m' (old _ _ hb' e); simp; omega
  · by_cases e : b' = b
    · subst e
      obtain rfl := new _ hb'
      exact ⟨o, by rw [alloc_get, hc]; simp, hbr⟩
    · obtain ⟨o', h1, h2⟩ := h.blk b' m' (old _ _ hb' e) hlv
      exact ⟨o', (hl _ (get_lt h1)).trans h1, h2.mono hle⟩
  · by_cases e1 : b1 = b
    · by_cases e2 : b2 = b
      · rw [e1, e2]
      · subst e1
        obtain rfl := new _ h1
        have := (h.dom b2 m2 (old _ _ h2 e2)).2
        omega
    · by_cases e2 : b2 = b
      · subst e2
        obtain rfl := new _ h2
        have := (h.dom b1 m1 (old _ _ h1 e1)).2
        omega
      · exact h.inj b1 b2 m1 m2 (old _ _ h1 e1) (old _ _ h2 e2) l1 l2 e
theorem Ext.appear (h : Ext ro μ0 H0 w0 μ H w) {b : Nat} (hb : μ b = none) (hn : H0.nx ≤ b) {m : MB} {o : Obj} (hc : m.c = w.heap.size) (hH : HR μ H w) : Ext ro μ0 H0 w0 (μ.put b m) H (w.alloc o) := by
  have hle := Mu.put_le (m := m) hb
  refine ⟨Mu.le_trans h.mu hle, fun b' m' h1 h2 => ?_, h.nx, h.ab, by have := h.sz; simp; omega, fun c h1 h2 => ?_, fun b' m' h1 h2 h3 => ?_, h.like.trans ⟨rfl, rfl, rfl⟩⟩
  · by_cases e : b' = b
    · subst e
      have : m' = m := by simpa [Mu.put] using h1.symm
      subst this
      exact ⟨hn, .inl (by have := h.sz; omega)⟩
    · exact h.nw b' m' (by simpa [Mu.put, e] using h1) h2
  · have := h.sz
    rw [alloc_get, if_neg (by omega)]; exact h.cb c h1 h2
  · obtain ⟨k1, k2⟩ := h.ro b' m' h1 h2 h3
    have := (hH.dom _ _ (h.mu _ _ h2)).2
    rw [alloc_get, if_neg (by omega)]; exact ⟨k1, k2⟩
mutual
theorem avEq_eq : ∀ v u : AV, avEq v u = true → v = u
  | ⟨t, a, b, c, d, l, m⟩, ⟨t', a', b', c', d', l', m'⟩, h => by
    unfold avEq at h
    simp only [bA_true, beq_t] at h
    obtain ⟨rfl, rfl, rfl, rfl, rfl, h1, h2⟩ := h
    rw [avEqs_eq l l' h1, avEqs_eq m m' h2]
theorem avEqs_eq : ∀ l m : List AV, avEqs l m = true → l = m
  | [], [], _ => rfl
  | a :: as, b :: bs, h => by
    unfold avEqs at h
    rw [bA_true] at h
    rw [avEq_eq a b h.1, avEqs_eq as bs h.2]
  | [], _ :: _, h => by simp [avEqs] at h
  | _ :: _, [], h => by simp [avEqs] at h
end
end
end Go.Ev

/-! Proofs, part 34: what a value depends on. -/
namespace Go.Ev
set_option linter.unusedVariables false
set_option linter.unusedSimpArgs false
section
variable {X : Cx} {env : List Ad} {H H' : Heap} {τ τ' : QT X.d} {o : Oper}
theorem cOpd_congr {x : Operand} (h : ∀ t, x = .tmp t → qget X.d t τ = qget X.d t τ') : cOpd X x τ = cOpd X x τ' := by
  cases x with
  | tmp t =>
    show cT (isPlain X t) (gt X.d t).f noG τ = cT (isPlain X t) (gt X.d t).f noG τ'
    cases isPlain X t
    · rfl
    · exact h t rfl
  | _ => rfl
theorem evals_congr {os : List Operand} (h : ∀ x ∈ os, cOpd X x τ = cOpd X x τ') : evals (os.map (cOpd X)) τ = evals (os.map (cOpd X)) τ' := by
  rw [evals_eq, evals_eq, List.map_map, List.map_map]
  exact List.map_congr_left fun x hx => h x hx
theorem fillL_congr : ∀ (ps : List (Pt X.d)) (cs : List AV), (∀ p ∈ ps, p.g τ = p.g τ') → fillL ps τ cs = fillL ps τ' cs
  | [], _, _ => rfl
  | p :: ps, cs, h => by
    show cL (cellsOk (p.g τ) p.s) (fillL ps τ _) [] = cL (cellsOk (p.g τ') p.s) (fillL ps τ' _) []
    rw [h p (by simp), fillL_congr ps _ fun q hq => h q (by simp [hq])]
theorem partsS_mem {n : Nat} {pl : List (Nat × Nat)} : ∀ {ps : List (Nat × Operand)} {r : List (Pt X.d)}, partsS X n pl ps = some r → ∀ p ∈ r, ∃ q ∈ ps, p.g = cOpd X q.2
  | [], r, h, p, hp => by cases h; simp at hp
  | (i, x) :: ps, r, h, p, hp => by
    unfold partsS at h
    split at h
    · rename_i o s r' h1 h2
      rw [cT_eq] at h
      split at h
      · cases h
        rcases List.mem_cons.1 hp with rfl | hp
        · exact ⟨(i, x), by simp, rfl⟩
        · obtain ⟨q, k1, k2⟩ := partsS_mem h2 p hp
          exact ⟨q, by simp [k1], k2⟩
      · cases h
    · cases h
theorem partsA_mem {s n : Nat} : ∀ {ps : List (Nat × Operand)} {r : List (Pt X.d)}, partsA X s n ps = some r → ∀ p ∈ r, ∃ q ∈ ps, p.g = cOpd X q.2
  | [], r, h, p, hp => by cases h; simp at hp
  | (i, x) :: ps, r, h, p, hp => by
    unfold partsA at h
    rw [cT_eq] at h
    split at h
    · split at h
      · rename_i r' h2
        cases h
        rcases List.mem_cons.1 hp with rfl | hp
        · exact ⟨(i, x), by simp, rfl⟩
        · obtain ⟨q, k1, k2⟩ := partsA_mem h2 p hp
          exact ⟨q, by simp [k1], k2⟩
      · cases h
    · cases h
theorem bd_congr {x : Option Operand} (h : ∀ y, x = some y → cOpd X y τ = cOpd X y τ') : (cBd X x).g τ = (cBd X x).g τ' := by
  cases x with
  | none => rfl
  | some y => exact h y rfl
/-- a value depends on the operands, its box, and the heap only if it says so -/
theorem val_congr {k : Nat} {f : QT X.d → Heap → AV} (h : cCO X env o = .val k f) (hc : ∀ x ∈ o.op.operands.toList, cOpd X x τ = cOpd X x τ') (hb : ∀ b, k = b + 2 → qget X.d b τ = qget X.d b τ' ∧ ∀ t, Operand.tmp t ∈ o.op.operands.toList → qget X.d t τ = qget X.d t τ')
    (hH : k = 1 → H = H') : f τ H = f τ' H' := by
  have u : ∀ (h' : AV → AV) (x : Operand) (k : Nat) (f : QT X.d → Heap → AV), CO.val 0 (u1 h' (cOpd X x)) = CO.val k f → x ∈ o.op.operands.toList → f τ H = f τ' H' := fun h' x k f e hx => by
    have := val_inj e; subst this
    show h' (cOpd X x τ) = h' (cOpd X x τ'); rw [hc x hx]
  have u2' : ∀ (h' : AV → AV → AV) (x y : Operand) (k : Nat) (f : QT X.d → Heap → AV), CO.val 0 (u2 h' (cOpd X x) (cOpd X y)) = CO.val k f → x ∈ o.op.operands.toList → y ∈ o.op.operands.toList → f τ H = f τ' H' := fun h' x y k f e hx hy => by
    have := val_inj e; subst this
    show h' (cOpd X x τ) (cOpd X y τ) = h' (cOpd X x τ') (cOpd X y τ'); rw [hc x hx, hc y hy]
  have rr : ∀ (h' : AV → Heap → AV) (x : Operand) (k : Nat) (f : QT X.d → Heap → AV), CO.val 1 (r1 h' (cOpd X x)) = CO.val k f → (k = 1 → H = H') → x ∈ o.op.operands.toList → f τ H = f τ' H' := fun h' x k f e hH hx => by
    injection e with e1 e2
    subst e2
    show h' (cOpd X x τ) H = h' (cOpd X x τ') H'; rw [hc x hx, hH e1.symm]
  have rr2 : ∀ (h' : AV → AV → Heap → AV) (x y : Operand) (k : Nat) (f : QT X.d → Heap → AV), CO.val 1 (r2 h' (cOpd X x) (cOpd X y)) = CO.val k f → (k = 1 → H = H') → x ∈ o.op.operands.toList → y ∈ o.op.operands.toList → f τ H = f τ' H' := fun h' x y k f e hH hx hy => by
    injection e with e1 e2
    subst e2
    show h' (cOpd X x τ) (cOpd X y τ) H = h' (cOpd X x τ') (cOpd X y τ') H'; rw [hc x hx, hc y hy, hH e1.symm]
  rw [cCO_eq] at h
  unfold cCOs at h
  split at h
  · rename_i x hop; rw [hop] at u; exact u _ x _ _ h (by simp [Op.operands])
  · rename_i x hop; rw [hop] at u; exact u _ x _ _ h (by simp [Op.operands])
  · rename_i c x y hop
    have := val_inj h; subst this
    rw [hop] at hc
    show cV (Nat.beq (cOpd X c τ).t 1) (cOpd X x τ) (cV (Nat.beq (cOpd X c τ).t 0) (cOpd X y τ) vX) = cV (Nat.beq (cOpd X c τ').t 1) (cOpd X x τ') (cV (Nat.beq (cOpd X c τ').t 0) (cOpd X y τ') vX)
    rw [hc c (by simp [Op.operands]), hc x (by simp [Op.operands]), hc y (by simp [Op.operands])]
  · split at h
    · split at h
      · rw [cT_eq] at h
        split at h
        · rw [cT_eq] at h
          split at h <;> cases h
        · cases h
      · cases h
    · cases h
  · split at h
    · rw [cT_eq] at h
      split at h
      · rw [cT_eq] at h
        split at h <;> cases h
      · cases h
    · cases h
  · -- build
    rename_i t ps hop
    rw [hop] at hc
    have hps : ∀ q ∈ ps.toList, cOpd X q.2 τ = cOpd X q.2 τ' := fun q hq => hc q.2 (by simp [Op.operands]; exact ⟨q.1, by simpa using hq⟩)
    have fin : ∀ (r : List (Pt X.d)), (∀ p ∈ r, ∃ q ∈ ps.toList, p.g = cOpd X q.2) → ∀ k f, CO.val 0 (buildP (zeroA X.P t).a (zeroA X.P t).l r) = CO.val k f → f τ H = f τ' H' := fun r hr k f e => by
      have := val_inj e; subst this
      show aggV _ (fillL r τ _) = aggV _ (fillL r τ' _)
      have hg : ∀ p ∈ r, p.g τ = p.g τ' := fun p hp => by
        obtain ⟨q, q1, q2⟩ := hr p hp
        have := hps q q1
        rw [← q2] at this
        exact this
      rw [fillL_congr r _ hg]
    unfold buildCO at h
    rw [cT_eq] at h
    split at h
    · cases h
    · rw [cT_eq] at h
      split at h
      · split at h
        · rw [cT_eq] at h
          split at h
          · split at h
            · rename_i r hr; exact fin r (partsS_mem hr) _ _ h
            · cases h
          · cases h
        · rw [cT_eq] at h
          split at h
          · split at h
            · rename_i r hr; exact fin r (partsA_mem hr) _ _ h
            · cases h
          · cases h
        · cases h
      · cases h
  · unfold bsliceCO at h
    split at h
    · cases h
    · split at h
      · cases h
      · rw [cT_eq] at h
        split at h <;> cases h
  · -- load
    rename_i t x hop
    split at h
    · rename_i p hp
      rw [cT_eq] at h
      split at h
      · cases h
      · injection h with hk hf
        subst hf
        have hbx := (hb p.box hk.symm).1
        have hch : qget X.d p.chk τ = qget X.d p.chk τ' := by
          cases x with
          | tmp t' =>
            have hx := (hb p.box hk.symm).2 t' (by rw [hop]; simp [Op.operands])
            have : p.chk = t' := by
              unfold cAdr at hp
              simp only at hp
              rw [cT_eq] at hp
              split at hp
              · cases hp; rfl
              · rw [cT_eq] at hp
                split at hp
                · split at hp
                  · cases hp; rfl
                  · cases hp
                · cases hp
            rw [this]; exact hx
          | _ => cases hp
        show cV (bA (Nat.beq (qget X.d p.chk τ).t p.tag) (Nat.beq (qget X.d p.box τ).t 21)) (cV _ (aggV _ (rangeL _ _ (qget X.d p.box τ).a (qget X.d p.box τ).l)) (nthV _ (qget X.d p.box τ).l)) vX = cV (bA (Nat.beq (qget X.d p.chk τ').t p.tag) (Nat.beq (qget X.d p.box τ').t 21)) (cV _ (aggV _ (rangeL _ _ (qget X.d p.box τ').a (qget X.d p.box τ').l)) (nthV _ (qget X.d p.box τ').l)) vX
        rw [hbx, hch]
    · rw [cT_eq] at h
      split at h
      · cases h
      · rw [hop] at rr; exact rr _ x _ _ h hH (by simp [Op.operands])
  · split at h <;> cases h
  · rename_i x hop; rw [hop] at u; exact u _ x _ _ h (by simp [Op.operands])
  · -- binOp
    rename_i op t x y _ hop
    rw [hop] at u2' rr2
    have hx : x ∈ (Op.binOp op t x y ‹_›).operands.toList := by simp [Op.operands]
    have hy : y ∈ (Op.binOp op t x y ‹_›).operands.toList := by simp [Op.operands]
    have heq : ∀ neg k f, eqCO X neg t x y = .val k f → (k = 1 → H = H') → f τ H = f τ' H' := fun neg k f e hH => by
      have hC : ∀ (h' : AV → AV → Nat), eqC (d := X.d) h' neg (cOpd X x) (cOpd X y) = .val k f → f τ H = f τ' H' := fun h' e => by
        unfold eqC at e; cases neg <;> simp only [cT_true, cT_false] at e <;> exact u2' _ x y _ _ e hx hy
      have hR : ∀ (h' : AV → AV → Heap → Nat), eqR (d := X.d) h' neg (cOpd X x) (cOpd X y) = .val k f → f τ H = f τ' H' := fun h' e => by
        unfold eqR at e; cases neg <;> simp only [cT_true, cT_false] at e <;> exact rr2 _ x y _ _ e hH hx hy
      unfold eqCO at e
      split at e
      · exact hC _ e
      · rw [cT_eq] at e
        split at e
        · cases e
        · exact hR _ e
      · exact hC _ e
      · exact hC _ e
      · exact hC _ e
      · exact hC _ e
      · cases e
    unfold binCO at h
    split at h
    · cases op <;> (simp only at h; exact u2' _ x y _ _ h hx hy)
    · exact u2' _ x y _ _ h hx hy
    · split at h
      · exact heq _ _ _ h hH
      · exact heq _ _ _ h hH
      · cases h
  · -- unOp
    rename_i op t x hop
    rw [hop] at u
    have hx : x ∈ (Op.unOp op t x).operands.toList := by simp [Op.operands]
    unfold unCO at h
    split at h
    · exact u _ x _ _ h hx
    · split at h
      · exact u _ x _ _ h hx
      · cases h
    · split at h
      · exact u _ x _ _ h hx
      · cases h
    · cases h
  · -- convert
    rename_i s t x hop
    rw [hop] at u rr
    have hx : x ∈ (Op.convert s t x).operands.toList := by simp [Op.operands]
    unfold convCO at h
    split at h
    · exact u _ x _ _ h hx
    · exact u _ x _ _ h hx
    · exact u _ x _ _ h hx
    · split at h <;> cases h
    · split at h
      · exact rr _ x _ _ h hH hx
      · cases h
    · cases h
  · rename_i t x hop
    rw [cT_eq] at h
    split at h
    · cases h
    · rw [hop] at u; exact u _ x _ _ h (by simp [Op.operands])
  · -- makeFunc
    rename_i fn l m hop
    have := val_inj h; subst this
    rw [hop] at hc
    show fnV _ (evals _ τ) (evals _ τ) = fnV _ (evals _ τ') (evals _ τ')
    rw [evals_congr (os := l.toList) fun x hx => hc x (by simp [Op.operands]; exact .inl (by simpa using hx)), evals_congr (os := m.toList) fun x hx => hc x (by simp [Op.operands]; exact .inr (by simpa using hx))]
  · cases h
  · unfold mkSliceCO at h
    split at h
    · cases h
    · split at h <;> cases h
  · -- slice
    rename_i t x lo hi mx hop
    rw [hop] at hc
    have hx := hc x (by simp [Op.operands])
    have b1 := bd_congr (X := X) (τ := τ) (τ' := τ') (x := lo) fun y e => hc y (by simp [Op.operands, e])
    have b2 := bd_congr (X := X) (τ := τ) (τ' := τ') (x := hi) fun y e => hc y (by simp [Op.operands, e])
    have b3 := bd_congr (X := X) (τ := τ) (τ' := τ') (x := mx) fun y e => hc y (by simp [Op.operands, e])
    unfold slCO at h
    rw [cT_eq] at h
    split at h
    · cases h
    · split at h
      · split at h
        · have := val_inj h; subst this
          simp only [slStr, bdOk, bdN, hx, b1, b2]
        · cases h
      · rw [cT_eq] at h
        split at h
        · cases h
        · injection h with hk hf
          subst hf
          simp only [slH, bdOk, bdN, hx, b1, b2, b3, hH hk.symm]
      · rw [cT_eq] at h
        split at h
        · have := val_inj h; subst this
          simp only [slArr, bdOk, bdN, hx, b1, b2, b3]
        · cases h
      · cases h
  · -- fieldAddr
    rename_i t x i hop
    split at h
    · split at h
      · rw [cT_eq] at h
        split at h <;> cases h
      · cases h
    · unfold faCO at h
      split at h
      · rw [cT_eq] at h
        split at h
        · cases h
        · rw [hop] at u; exact u _ x _ _ h (by simp [Op.operands])
      · cases h
  · rename_i t x i hop
    unfold fldCO at h
    split at h
    · rw [cT_eq] at h
      split at h
      · rw [hop] at u; exact u _ x _ _ h (by simp [Op.operands])
      · cases h
    · cases h
  · rename_i t x i hop
    rw [hop] at u2'
    unfold ixaCO at h
    split at h
    · rw [cT_eq] at h
      split at h
      · exact u2' _ x i _ _ h (by simp [Op.operands]) (by simp [Op.operands])
      · cases h
    · rw [cT_eq] at h
      split at h
      · exact u2' _ x i _ _ h (by simp [Op.operands]) (by simp [Op.operands])
      · cases h
    · cases h
  · rename_i t x i hop
    rw [hop] at u2'
    unfold ixCO at h
    split at h
    · exact u2' _ x i _ _ h (by simp [Op.operands]) (by simp [Op.operands])
    · rw [cT_eq] at h
      split at h
      · exact u2' _ x i _ _ h (by simp [Op.operands]) (by simp [Op.operands])
      · cases h
    · cases h
  · rename_i t x i ok hop
    rw [hop] at rr2
    unfold lookCO at h
    split at h
    · rw [cT_eq] at h
      split at h
      · exact rr2 _ x i _ _ h hH (by simp [Op.operands]) (by simp [Op.operands])
      · cases h
    · cases h
  · unfold mupdCO at h; split at h <;> cases h
  · unfold mupdCO at h; split at h <;> cases h
  · split at h <;> cases h
  · cases h
  · rename_i x hop; rw [hop] at rr; exact rr _ x _ _ h hH (by simp [Op.operands])
  · rename_i x xt t ok hop
    unfold asCO at h
    rw [cT_eq] at h
    split at h
    · cases h
    · rw [cT_eq] at h
      split at h
      · rw [hop] at u; exact u _ x _ _ h (by simp [Op.operands])
      · cases h
  · rename_i x i hop; rw [hop] at u; exact u _ x _ _ h (by simp [Op.operands])
  · -- call
    rename_i c hop
    split at h
    · rename_i b hcal
      rw [hop] at u rr hc
      have mem : ∀ y ∈ c.args.toList, y ∈ (Op.call c).operands.toList := fun y hy => by simp [Op.operands, Call.operands, hcal]; simpa using hy
      have hmm : ∀ (isMax : Bool) (x : Operand) (xs : List Operand) (k : Nat) (f : QT X.d → Heap → AV), (∀ y ∈ x :: xs, y ∈ c.args.toList) → CO.val 0 (mmP isMax (cOpd X x) (xs.map (cOpd X))) = CO.val k f → f τ H = f τ' H' := fun isMax x xs k f hm e => by
        have := val_inj e; subst this
        have hx := hc x (mem x (hm x (by simp)))
        have hxs : (xs.map (cOpd X)).map (fun g => g τ) = (xs.map (cOpd X)).map (fun g => g τ') := by
          rw [List.map_map, List.map_map]
          exact List.map_congr_left fun y hy => hc y (mem y (hm y (by simp [hy])))
        show cV (isI (cOpd X x τ)) (mmL isMax _ (cOpd X x τ) τ) vX = cV (isI (cOpd X x τ')) (mmL isMax _ (cOpd X x τ') τ') vX
        rw [mmL_eq, mmL_eq, hxs, hx]
      generalize hargs : c.args.toList = args at h mem hmm
      generalize c.argTypes.toList = ats at h
      unfold builtinCO at h
      split at h
      · rename_i t _ x
        have hx := mem x (by simp)
        unfold lenCO at h
        split at h
        · exact u _ x _ _ h hx
        · exact u _ x _ _ h hx
        · have := val_inj h; subst this; rfl
        · split at h
          · have := val_inj h; subst this; rfl
          · cases h
        · exact rr _ x _ _ h hH hx
        · cases h
      · rename_i t _ x
        split at h
        · exact u _ x _ _ h (mem x (by simp))
        · cases h
      · rename_i x xs; exact hmm _ x xs _ _ (fun y hy => hy) h
      · rename_i x xs; exact hmm _ x xs _ _ (fun y hy => hy) h
      · split at h
        · split at h <;> cases h
        · cases h
      · split at h <;> cases h
      · split at h <;> cases h
      · split at h <;> cases h
      · cases h
    · cases h
  · cases h
end
end Go.Ev

/-! Proofs, part 35: deferred functions, recover. -/
namespace Go.Ev
set_option linter.unusedVariables false
set_option linter.unusedSimpArgs false
/-- what recover may return, and the mode of the frame that waits -/
def InfR (μ : Mu) : Option (AV × Value) → AV → FrameMode → Prop
  | none, info, u => info.t = 22 ∧ info.l = [] ∧ u = .returning
  | some (v, px), info, u => info.t = 22 ∧ VR μ v px ∧ ((info.l = [v] ∧ u = .panicking [{ v := px, recovered := false }]) ∨ (info.l = [v, v] ∧ u = .panicking [{ v := px, recovered := true }]))
section
variable {X : Cx} {env : List Ad} {μ μ0 : Mu} {w w0 : World} {H H0 : Heap} {τ : QT X.d} {a : Act} {o : Oper} {P : Program} {ro : Nat}
/-- compiled code does what the code does: a deferred function's -/
def SCodeOK (X : Cx) (om : Option (AV × Value)) (c : Code) (x : CallT → QT X.d → AV → Heap → (QT X.d → AV → Heap → Ans) → (Ex → QT X.d → AV → Heap → Ans) → Ans) : Prop :=
  ∀ (call : CallT) (kn : QT X.d → AV → Heap → Ans) (kx : Ex → QT X.d → AV → Heap → Ans) (c₀ : Frame) (cs : List Frame) (Q : Exit → Act → List Frame → World → Prop) μ0 H0 w0 μ H w τ a info u, CallOK X.P X.ro call →
    RelE X none [] NoU μ0 H0 w0 μ H w τ a → InfR μ0 om info u → x call τ info H kn kx = .done →
    (∀ μ H w τ a info u, RelE X none [] NoU μ0 H0 w0 μ H w τ a → InfR μ0 om info u → kn τ info H = .done → Q .normal a ({ c₀ with mode := u } :: cs) w) →
    (∀ μ H w τ a info u, RelE X none [] NoU μ0 H0 w0 μ H w τ a → InfR μ0 om info u → (∀ id, kx (.j (.exit id)) τ info H = .done → Q (.exit id) a ({ c₀ with mode := u } :: cs) w) ∧
      (kx (.j .ret) τ info H = .done → Q .ret a ({ c₀ with mode := u } :: cs) w) ∧ (∀ v x, VR μ v x → kx (.pan v) τ info H = .done → Q (.panic [{ v := x, recovered := false }]) a ({ c₀ with mode := u } :: cs) w)) →
    c.wpSIn (Fr none) 0 X.P Q a ({ c₀ with mode := u } :: cs) w
theorem sPlain_ok {om : Option (AV × Value)} {c : Code} {x : ClT X.d} (hx : CodeOK X none c x) : SCodeOK X om c (sPlain x) := by
  intro call kn kx c₀ cs Q μ0 H0 w0 μ H w τ a info u hK h hi hok hkn hkx
  refine wpSIn_of_wpIn rfl ?_
  exact hx call (fun τ H => kn τ info H) (fun e τ H => kx e τ info H) _ μ0 H0 w0 μ H w τ a hK h hok (fun μ' H' w' τ' a' h' ho => hkn μ' H' w' τ' a' info u h' hi ho) fun μ' H' w' τ' a' h' => hkx μ' H' w' τ' a' info u h' hi
theorem isRec_inv (h : isRec o.op = true) : ∃ c, o.op = .call c ∧ c.callee = .builtin .recover := by
  unfold isRec at h
  split at h
  · rename_i c hc
    split at h
    · rename_i hcal; exact ⟨c, hc, hcal⟩
    · cases h
  · cases h
theorem put_okS {dst : Option Nat} {r : QT X.d → Heap → RK X.d → Ans} {K : RK X.d} {next : Act → World → Prop} {v : AV} {x : Value} (hn : NextOK X none env μ0 H0 w0 r K next) (h : RelE X none env NoU μ0 H0 w0 μ H w τ a) (hv : Ok v → VR μ v x)
    (he : envFree env dst = true) (hok : (putC X dst ⟨r⟩).f τ K v H = .done) : next (a.put dst x) w := put_ok (r := ⟨r⟩) hn h hv he hok
theorem exec_recover {c : Call} (ρ : Operand → Value) (ho : o.op = .call c) (hc : c.callee = .builtin .recover) : (execOp ρ o).run P w = .ok .recover w := by
  rw [exec_builtin ρ ho hc]; rfl
theorem stepS_yes {ops : Array Oper} {Q : Exit → Act → List Frame → World → Prop} {i : Nat} {rest : List Nat} {cs : List Frame} (ho : ops[i]? = some o) (hw : Region.wanted o (yielded ops a.tmps) = true)
    (hs : StepsTo P o a (fun a w => wpOpsSIn (Fr none) 0 P ops Q rest a cs w) ((execOp a.eval o).run P w)) : wpOpsSIn (Fr none) 0 P ops Q (i :: rest) a cs w := by
  unfold wpOpsSIn
  rw [ho]
  refine ⟨fun _ _ => trivial, ?_⟩
  rw [if_pos hw]
  rcases hs with ⟨x, w', e1, e2⟩ | ⟨w', e1, e2⟩
  · rw [e1]; exact e2
  · rw [e1]; exact e2
theorem stepS_no {ops : Array Oper} {Q : Exit → Act → List Frame → World → Prop} {i : Nat} {rest : List Nat} {cs : List Frame} (ho : ops[i]? = some o) (hw : Region.wanted o (yielded ops a.tmps) = false)
    (hs : wpOpsSIn (Fr none) 0 P ops Q rest (a.put o.dst undef) cs w) : wpOpsSIn (Fr none) 0 P ops Q (i :: rest) a cs w := by
  unfold wpOpsSIn
  rw [ho]
  refine ⟨fun _ _ => trivial, ?_⟩
  rw [if_neg (by rw [hw]; decide)]
  exact hs
theorem stepS_rec0 {ops : Array Oper} {Q : Exit → Act → List Frame → World → Prop} {i : Nat} {rest : List Nat} {cs : List Frame} (ho : ops[i]? = some o) (hw : Region.wanted o (yielded ops a.tmps) = true) (hx : (execOp a.eval o).run P w = .ok .recover w)
    (hr : recoverD cs = none) (hs : wpOpsSIn (Fr none) 0 P ops Q rest (a.put o.dst .nilIface) cs w) : wpOpsSIn (Fr none) 0 P ops Q (i :: rest) a cs w := by
  unfold wpOpsSIn
  rw [ho]
  refine ⟨fun _ _ => trivial, ?_⟩
  rw [if_pos hw, hx]
  simp only [hr]
  exact hs
theorem stepS_rec1 {ops : Array Oper} {Q : Exit → Act → List Frame → World → Prop} {i : Nat} {rest : List Nat} {cs cs' : List Frame} {v : Value} (ho : ops[i]? = some o) (hw : Region.wanted o (yielded ops a.tmps) = true) (hx : (execOp a.eval o).run P w = .ok .recover w)
    (hr : recoverD cs = some (v, cs')) (hs : wpOpsSIn (Fr none) 0 P ops Q rest (a.put o.dst v) cs' w) : wpOpsSIn (Fr none) 0 P ops Q (i :: rest) a cs w := by
  unfold wpOpsSIn
  rw [ho]
  refine ⟨fun _ _ => trivial, ?_⟩
  rw [if_pos hw, hx]
  simp only [hr]
  exact hs
/-- a region with recover in it -/
theorem opsS_ok {om : Option (AV × Value)} {ops : Array Oper} {call : CallT} {kn : QT X.d → AV → Heap → Ans} {c₀ : Frame} {cs : List Frame} {Q : Exit → Act → List Frame → World → Prop}
    (hkn : ∀ μ H w τ a info u, RelE X none [] NoU μ0 H0 w0 μ H w τ a → InfR μ0 om info u → kn τ info H = .done → Q .normal a ({ c₀ with mode := u } :: cs) w) :
    ∀ (l : List Oper) (i : Nat) (env : List Ad) (info : AV) (u : FrameMode) μ H w τ a, ops.toList.drop i = l → InfR μ0 om info u → RelE X none env NoU μ0 H0 w0 μ H w τ a → opsS X ops.toList call kn env l info τ H = .done →
      wpOpsSIn (Fr none) 0 X.P ops Q (List.range' i l.length) a ({ c₀ with mode := u } :: cs) w := by
  intro l
  induction l with
  | nil =>
    intro i env info u μ H w τ a hl hi h hok
    exact hkn _ _ _ _ _ _ _ h.bare hi hok
  | cons o l ih =>
    intro i env info u μ H w τ a hl hi h hok
    have ho : ops[i]? = some o := by
      rw [← Array.getElem?_toList]
      have : (ops.toList.drop i)[0]? = some o := by rw [hl]; rfl
      rw [List.getElem?_drop] at this
      simpa using this
    have hl' : ops.toList.drop (i + 1) = l := by
      rw [← List.drop_drop, hl]; rfl
    unfold opsS at hok
    rw [cA_done] at hok
    obtain ⟨hef, hok⟩ := hok
    rw [List.length_cons, List.range'_succ]
    rcases cA_cases hok with ⟨hr, hok2⟩ | ⟨hr, hok2⟩
    · obtain ⟨c, hop, hcal⟩ := isRec_inv hr
      split at hok2
      · cases hok2
      · rename_i hg
        have hw : Region.wanted o (yielded ops a.tmps) = true := by unfold Region.wanted; rw [hg]
        have hrun := exec_recover (P := X.P) (w := w) a.eval hop hcal
        unfold recS at hok2
        rw [tA_done] at hok2
        obtain ⟨_, hok3⟩ := hok2
        cases om with
        | none =>
          obtain ⟨hi0, e, rfl⟩ := hi
          rw [e] at hok3
          have hrec : recoverD ({ c₀ with mode := .returning } :: cs) = none := rfl
          refine stepS_rec0 ho hw hrun hrec ?_
          refine put_okS (next := fun a w => wpOpsSIn (Fr none) 0 X.P ops Q (List.range' (i + 1) l.length) a ({ c₀ with mode := .returning } :: cs) w) (r := fun τ' H' _ => opsS X ops.toList call kn env l info τ' H') ?_ h (fun _ => .nili) hef hok3
          intro μ' H' w' τ' a' h' ho'
          exact ih (i + 1) env info .returning μ' H' w' τ' a' hl' ⟨hi0, e, rfl⟩ h' ho'
        | some p =>
          obtain ⟨v, px⟩ := p
          obtain ⟨hi0, hv, hi⟩ := hi
          rcases hi with ⟨e, rfl⟩ | ⟨e, rfl⟩
          · rw [e] at hok3
            have hrec : recoverD ({ c₀ with mode := .panicking [{ v := px, recovered := false }] } :: cs) = some (px, { c₀ with mode := .panicking [{ v := px, recovered := true }] } :: cs) := rfl
            refine stepS_rec1 ho hw hrun hrec ?_
            refine put_okS (next := fun a w => wpOpsSIn (Fr none) 0 X.P ops Q (List.range' (i + 1) l.length) a ({ c₀ with mode := .panicking [{ v := px, recovered := true }] } :: cs) w) (r := fun τ' H' _ => opsS X ops.toList call kn env l (vTup [v, v]) τ' H') ?_ h (fun _ => hv.mono h.E.mu) hef hok3
            intro μ' H' w' τ' a' h' ho'
            exact ih (i + 1) env (vTup [v, v]) _ μ' H' w' τ' a' hl' ⟨rfl, hv, .inr ⟨rfl, rfl⟩⟩ h' ho'
          · rw [e] at hok3; cases hok3
    · rcases cA_cases hok2 with ⟨_, hok3⟩ | ⟨hnc, hok3⟩
      · cases hok3
      · have hn : NextOK X none (envOf (cCO X env o) env) μ0 H0 w0 (fun τ' H' _ => opsS X ops.toList call kn (envOf (cCO X env o) env) l info τ' H') (rk0 call)
            (fun a w => wpOpsSIn (Fr none) 0 X.P ops Q (List.range' (i + 1) l.length) a ({ c₀ with mode := u } :: cs) w) := fun μ' H' w' τ' a' h' ho' => ih (i + 1) _ info u μ' H' w' τ' a' hl' hi h' ho'
        have yes : (op1 X false (cCO X env o) o ⟨fun τ' H' _ => opsS X ops.toList call kn (envOf (cCO X env o) env) l info τ' H'⟩).run τ H (rk0 call) = .done →
            StepsTo X.P o a (fun a w => wpOpsSIn (Fr none) 0 X.P ops Q (List.range' (i + 1) l.length) a ({ c₀ with mode := u } :: cs) w) ((execOp a.eval o).run X.P w) := fun e => by
          unfold op1 at e
          rw [hnc, cT_false] at e
          exact runCO_ok2 hn h hef e
        have no : (skipC X o.dst ⟨fun τ' H' _ => opsS X ops.toList call kn (envOf (cCO X env o) env) l info τ' H'⟩).run τ H (rk0 call) = .done →
            wpOpsSIn (Fr none) 0 X.P ops Q (List.range' (i + 1) l.length) (a.put o.dst undef) ({ c₀ with mode := u } :: cs) w := fun e => skipE_ok hn h hef e
        unfold cOp at hok3
        split at hok3
        · rename_i hg
          exact stepS_yes ho (by unfold Region.wanted; rw [hg]) (yes hok3)
        · rename_i j want hg
          have hw : Region.wanted o (yielded ops a.tmps) = (yielded ops a.tmps j == some want) := by unfold Region.wanted; rw [hg]
          split at hok3
          · rename_i t ht
            obtain ⟨g1, g2, g3⟩ := guard_ok (ops := ops) h ht
            have h0 : runGuard (cTmp X t) want (op1 X false (cCO X env o) o _).run (skipC X o.dst _).run τ H (rk0 call) = .done := hok3
            unfold runGuard at h0
            rcases cA_cases h0 with ⟨h1, h2⟩ | ⟨h1, h2⟩
            · rw [beq_t] at h1
              have g := g1 h1
              cases want with
              | true => exact stepS_yes ho (by rw [hw, g]; rfl) (yes h2)
              | false => exact stepS_no ho (by rw [hw, g]; rfl) (no h2)
            · rcases cA_cases h2 with ⟨h3, h4⟩ | ⟨h3, h4⟩
              · rw [beq_t] at h3
                have g := g2 h3
                cases want with
                | true => exact stepS_no ho (by rw [hw, g]; rfl) (no h4)
                | false => exact stepS_yes ho (by rw [hw, g]; rfl) (yes h4)
              · rw [cA_done, bA_true, beq_t, nilB_eq] at h4
                exact stepS_no ho (by rw [hw, g3 h4.1.1 h4.1.2]; rfl) (no h4.2)
          · cases hok3
end
end Go.Ev

/-! Proofs, part 36: deferred functions (2). -/
namespace Go.Ev
set_option linter.unusedVariables false
set_option linter.unusedSimpArgs false
section
variable {X : Cx} {env : List Ad} {μ μ0 : Mu} {w w0 : World} {H H0 : Heap} {τ : QT X.d} {a : Act} {o : Oper} {P : Program} {ro : Nat} {om : Option (AV × Value)}
theorem compS_ok {fn : Nat} (hcode : ∀ c : Code, CodeOK X none c (comp X fn c).run) : ∀ c : Code, SCodeOK X om c (compS X fn c).run := by
  intro c
  induction c with
  | seq x y ihx ihy =>
    intro call kn kx c₀ cs Q μ0 H0 w0 μ H w τ a info u hK h hi hok hkn hkx
    refine wpSIn_seq ?_
    refine ihx call (fun τ' i H' => (compS X fn y).run call τ' i H' kn kx) kx c₀ cs _ μ0 H0 w0 μ H w τ a info u hK h hi hok ?_ ?_
    · intro μ' H' w' τ' a' info' u' h' hi' ho
      exact ihy call kn kx c₀ cs Q μ0 H0 w0 μ' H' w' τ' a' info' u' hK h' hi' ho hkn hkx
    · exact hkx
  | cond c x y ihx ihy =>
    intro call kn kx c₀ cs Q μ0 H0 w0 μ H w τ a info u hK h hi hok hkn hkx
    have hok' : cA (Nat.beq (cOpd X c τ).t 1) ((compS X fn x).run call τ info H kn kx) (tA (cOpd X c τ) 0 ((compS X fn y).run call τ info H kn kx)) = .done := hok
    rcases cA_cases hok' with ⟨h1, h2⟩ | ⟨_, h2⟩
    · rw [beq_t] at h1
      have hv := cOpd_rel (o := c) h.R.hF h.R.hG (fun _ _ h => h) (ok3 h1 (by decide))
      exact wpSIn_cond (t := true) (hv.inv_t h1) (ihx _ _ _ _ _ _ _ _ _ _ _ _ _ _ _ _ hK h hi h2 hkn hkx)
    · rw [tA_done] at h2
      have hv := cOpd_rel (o := c) h.R.hF h.R.hG (fun _ _ h => h) (ok3 h2.1 (by decide))
      exact wpSIn_cond (t := false) (hv.inv_f h2.1) (ihy _ _ _ _ _ _ _ _ _ _ _ _ _ _ _ _ hK h hi h2.2 hkn hkx)
  | region id ops draw =>
    cases draw with
    | true => exact sPlain_ok (hcode _)
    | false =>
      show SCodeOK X om _ (cT (hasRec ops.toList) (fun call τ info H kn _ => opsS X ops.toList call kn [] ops.toList info τ H) (sPlain (comp X fn (.region id ops false)).run))
      cases hasRec ops.toList with
      | false => exact sPlain_ok (hcode _)
      | true =>
        intro call kn kx c₀ cs Q μ0 H0 w0 μ H w τ a info u hK h hi hok hkn hkx
        refine wpSIn_region ?_
        have h1 := opsS_ok (c₀ := c₀) (cs := cs) (Q := Q) hkn ops.toList 0 [] info u μ H w τ a rfl hi h hok
        have e : List.range ops.size = List.range' 0 ops.toList.length := by rw [Array.length_toList, List.range_eq_range']
        rw [e]; exact h1
  | skip => exact sPlain_ok (hcode _)
  | label l => exact sPlain_ok (hcode _)
  | block id x ih => exact sPlain_ok (hcode _)
  | loop x ih => exact sPlain_ok (hcode _)
  | rangeFunc f ps asg body => exact sPlain_ok (hcode _)
  | exit id => exact sPlain_ok (hcode _)
  | scope c ih => exact sPlain_ok (hcode _)
  | goto l => exact sPlain_ok (hcode _)
  | ret => exact sPlain_ok (hcode _)
  | refuse s => exact sPlain_ok (hcode _)
theorem results_ok {fn : Func} (h : RelE X none [] NoU μ0 H0 w0 μ H w τ a) {k : List AV → Ans} (hok : (resC X fn.results.toList).f τ H k = .done) :
    ∃ v vs, (results fn a.tmps).run X.P w = .ok v w ∧ k vs = .done := by
  obtain ⟨vs, xs, h1, h2, h3⟩ := resC_ok h _ _ hok
  refine ⟨if hh : xs.length = 1 then xs[0] else .tuple ⟨xs⟩, vs, ?_, h3⟩
  have e : results fn a.tmps = (do let vs ← fn.results.mapM (resS' a.tmps); pure (if h : vs.size = 1 then vs[0] else .tuple vs) : Sem Value) := rfl
  rw [e, Sem.run_bind, Array.mapM_eq_mapM_toList, Sem.run_map, h1]
  rfl
/-- a deferred function -/
theorem runDef_ok {call : CallT} (hP : ProgOK P ro) (hcode : ∀ (X : Cx) (rd : Option Nat) (fn : Nat) (c : Code), X.P = P → X.ro = ro → CodeOK X rd c (comp X fn c).run) (hK : CallOK P ro call)
    {f : Nat} {args : List AV} {xs : List Value} {info : AV} {u : FrameMode} {k : AV → Heap → Ans} (hH : HR μ H w) (hG : GR ro μ H) (hv : VRs μ args xs) (hi : InfR μ om info u) (hok : runDefK (cFn P ro) call f args info H k = .done) :
    (∃ fn, P.funcs[f]? = some fn ∧ fn.body.isNone = false ∧ (fn.name == "runtime.NumGoroutine") = false) ∧
    CallsDIn (Fr none) 0 P f ⟨xs⟩ u w fun e u' w' => ∃ v r μ' H', e = .returned v ∧ HR μ' H' w' ∧ Ext ro μ H w μ' H' w' ∧ k r H' = .done ∧ InfR μ om r u' := by
  unfold runDefK at hok
  split at hok
  · cases hok
  · rename_i fc hfc
    obtain ⟨fn, c, h1, h2, h3, rfl⟩ := cFn_inv hfc
    have hbn : fn.body.isNone = false := by rw [h2]; rfl
    refine ⟨⟨fn, h1, hbn, hP.ng f fn h1 hbn⟩, ?_⟩
    have hd : (cxOf P ro fn c).nt + 2 ≤ 8 ^ (cxOf P ro fn c).d := by
      show fn.ntmps + 2 ≤ 8 ^ depthOf (Nat.add fn.ntmps 2)
      exact depth_ok (by omega)
    obtain ⟨τ, k1, k2, _, _⟩ := enter_ok (X := cxOf P ro fn c) hd hH hG hv hok
    refine callsDIn_of_wpSIn h1 h2 trivial fun c₀ cs hm => ?_
    have hend : ∀ μ' H' w' (τ' : QT (cxOf P ro fn c).d) a' info' u', RelE (cxOf P ro fn c) none [] NoU μ H w μ' H' w' τ' a' → InfR μ om info' u' → defEnd (cFn2 (cxOf P ro fn c) f fn c) k τ' info' H' = .done →
        a'.defers = [] ∧ ∃ u'', ({ c₀ with mode := u' } :: cs : List Frame) = { c₀ with mode := u'' } :: cs ∧ ∃ v, (results fn a'.tmps).run P w' = .ok v w' ∧
          (∃ v' r μ'' H'', Ending.returned v = .returned v' ∧ HR μ'' H'' w' ∧ Ext ro μ H w μ'' H'' w' ∧ k r H'' = .done ∧ InfR μ om r u'') := by
      intro μ' H' w' τ' a' info' u' hr hi' ho
      have ho' : tA ((gt (cxOf P ro fn c).d (cxOf P ro fn c).nt).f τ') 22 (lA ((gt (cxOf P ro fn c).d (cxOf P ro fn c).nt).f τ').l ((resC (cxOf P ro fn c) fn.results.toList).f τ' H' fun _ => k info' H') (fun _ _ => .fail 229)) = .done := ho
      rw [tA_done] at ho'
      obtain ⟨ht, ho2⟩ := ho'
      have hdr := hr.R.hF.df ht
      have hdr' : DR μ' ((gt (cxOf P ro fn c).d (cxOf P ro fn c).nt).f τ').l a'.defers := hdr
      generalize ((gt (cxOf P ro fn c).d (cxOf P ro fn c).nt).f τ').l = l at ho2 hdr'
      cases l with
      | cons v r => cases ho2
      | nil =>
        have hnil : a'.defers = [] := by
          generalize a'.defers = ds at hdr'
          cases hdr'; rfl
        obtain ⟨v, vs, r1, r2⟩ := results_ok hr ho2
        exact ⟨hnil, u', rfl, v, r1, v, info', μ', H', rfl, hr.R.hH, hr.E, r2, hi'⟩
    have hc₀ : ({ c₀ with mode := u } : Frame) = c₀ := by subst hm; rfl
    have := compS_ok (X := cxOf P ro fn c) (fn := f) (om := om) (fun c' => hcode _ none f c' rfl rfl) c call (defEnd (cFn2 (cxOf P ro fn c) f fn c) k) (defEx (cFn2 (cxOf P ro fn c) f fn c) k) c₀ cs
      (bodyPostS P fn c₀ cs fun e u' w' => ∃ v r μ' H', e = .returned v ∧ HR μ' H' w' ∧ Ext ro μ H w μ' H' w' ∧ k r H' = .done ∧ InfR μ om r u') μ H w μ H w τ _ info u hK k2 hi k1 ?_ ?_
    · rw [hc₀] at this; exact this
    · intro μ' H' w' τ' a' info' u' hr hi' ho
      exact hend μ' H' w' τ' a' info' u' hr hi' ho
    · intro μ' H' w' τ' a' info' u' hr hi'
      exact ⟨(fun id ho => by cases ho), (fun ho => hend μ' H' w' τ' a' info' u' hr hi' ho), (fun v x _ ho => by cases ho)⟩
theorem defs_ok {call : CallT} (hP : ProgOK P ro) (hcode : ∀ (X : Cx) (rd : Option Nat) (fn : Nat) (c : Code), X.P = P → X.ro = ro → CodeOK X rd c (comp X fn c).run) (hK : CallOK P ro call) : DefsOK P ro (cFn P ro) call := by
  intro f args H k μ w xs hH hG hv
  refine ⟨fun hok => ?_, fun pv px hp hok => ?_⟩
  · obtain ⟨h1, h2⟩ := runDef_ok (om := none) (u := .returning) hP hcode hK hH hG hv ⟨rfl, rfl, rfl⟩ hok
    refine ⟨h1, h2.mono fun e u w' hr => ?_⟩
    obtain ⟨v, r, μ', H', e1, e2, e3, e4, e5⟩ := hr
    exact ⟨v, r, μ', H', e1, e5.2.2, e2, e3, e4⟩
  · obtain ⟨h1, h2⟩ := runDef_ok (om := some (pv, px)) (u := .panicking [{ v := px, recovered := false }]) hP hcode hK hH hG hv ⟨rfl, hp, .inl ⟨rfl, rfl⟩⟩ hok
    refine ⟨h1, h2.mono fun e u w' hr => ?_⟩
    obtain ⟨v, r, μ', H', e1, e2, e3, e4, _, _, e5⟩ := hr
    refine ⟨v, r, μ', H', e1, e2, e3, e4, ?_⟩
    rcases e5 with ⟨q1, rfl⟩ | ⟨q1, rfl⟩
    · exact .inr ⟨(fun p q e => by rw [q1] at e; cases e), rfl⟩
    · exact .inl ⟨pv, pv, q1, rfl⟩
end
end Go.Ev

/-! Proofs, part 37: the whole evaluator, but for what is to be shown of regions that draw. -/
namespace Go.Ev
set_option linter.unusedVariables false
set_option linter.unusedSimpArgs false
section
variable {μ : Mu} {w : World} {H : Heap} {P : Program} {ro : Nat}
/-- regions that draw are safe -/
def DrawOK (P : Program) (ro : Nat) : Prop := ∀ (X : Cx) (rd : Option Nat) (id : Nat) (ops : Array Oper), X.P = P → X.ro = ro → CodeOK X rd (.region id ops true) (xRegion (drawnR X ops.toList).run)
theorem code_ok (hd : DrawOK P ro) (X : Cx) (rd : Option Nat) (fn : Nat) (c : Code) (hP : X.P = P) (hro : X.ro = ro) : CodeOK X rd c (comp X fn c).run :=
  comp_ok (fun id ops => hd X rd id ops hP hro) (fun fn f ps asg body h1 h2 => range_ok h1 h2) fn c
/-- what has been proved of calls is so -/
def OrcOK (P : Program) (gs : List AB) (os : List Orc) : Prop := ∀ o ∈ os, ∀ (m : Nat) (os' : List Orc) (μ : Mu) (H : Heap) (w : World) (xs : List Value) (kret kpan : KR), orcRun ⟨m, gs, os'⟩ o.res H kret = .done → HR μ H w → GR gs.length μ H → VRs μ o.args xs →
  (∃ fn, P.funcs[o.f]? = some fn ∧ fn.body.isNone = false ∧ (fn.name == "runtime.NumGoroutine") = false) ∧ CallsIn (Fr none) 0 P o.f ⟨xs⟩ w (RetOK gs.length μ H w kret kpan)
theorem orcGet_mem {f : Nat} {args : List AV} {o : Orc} : ∀ {os : List Orc}, orcGet f args os = some o → o ∈ os ∧ o.f = f ∧ o.args = args
  | [], h => by cases h
  | o' :: os, h => by
    have h : cT (Nat.beq o'.f f) (cT (avEqs o'.args args) (some o') (orcGet f args os)) (orcGet f args os) = some o := h
    rw [cT_eq] at h
    split at h
    · rename_i h1
      rw [beq_t] at h1
      rw [cT_eq] at h
      split at h
      · rename_i h2
        cases h
        exact ⟨by simp, h1, avEqs_eq _ _ h2⟩
      · obtain ⟨k1, k2, k3⟩ := orcGet_mem h
        exact ⟨by simp [k1], k2, k3⟩
    · obtain ⟨k1, k2, k3⟩ := orcGet_mem h
      exact ⟨by simp [k1], k2, k3⟩
theorem callN_ok {E : OrE} (hP : ProgOK P E.gs.length) (hd : DrawOK P E.gs.length) (hE : OrcOK P E.gs E.os) : ∀ n : Nat, CallOK P E.gs.length (callN P E.gs.length E (cFn P E.gs.length) n) := by
  intro n
  induction n with
  | zero => exact ⟨(fun f args H kret kpan μ w xs h => by cases h), (fun l args H kret kpan μ w m xs h => by cases h)⟩
  | succ n ih =>
    have hcode := fun (X : Cx) (rd : Option Nat) (fn : Nat) (c : Code) (h1 : X.P = P) (h2 : X.ro = E.gs.length) => code_ok hd X rd fn c h1 h2
    refine ⟨fun f args H kret kpan μ w xs h hH hG hv => ?_, fun l args H kret kpan μ w m xs h hH hG hm hv => ?_⟩
    · have plain : fnCall P E.gs.length (cFn P E.gs.length) (callN P E.gs.length E (cFn P E.gs.length) n) f args H kret kpan = .done →
          (∃ fn, P.funcs[f]? = some fn ∧ fn.body.isNone = false ∧ (fn.name == "runtime.NumGoroutine") = false) ∧ CallsIn (Fr none) 0 P f ⟨xs⟩ w (RetOK E.gs.length μ H w kret kpan) :=
        fun h' => fnCall_ok hP hcode ih (defs_ok hP hcode ih) h' hH hG hv
      have h' : cA (Nat.testBit E.mask f) (orcCall P E.gs.length E (cFn P E.gs.length) (callN P E.gs.length E (cFn P E.gs.length) n) f args H kret kpan) (fnCall P E.gs.length (cFn P E.gs.length) (callN P E.gs.length E (cFn P E.gs.length) n) f args H kret kpan) = .done := h
      rcases cA_cases h' with ⟨_, h1⟩ | ⟨_, h1⟩
      · unfold orcCall at h1
        split at h1
        · rename_i o ho
          obtain ⟨k1, k2, k3⟩ := orcGet_mem ho
          have := hE o k1 E.mask E.os μ H w xs kret kpan h1 hH hG (k3 ▸ hv)
          rw [k2] at this
          exact this
        · exact plain h1
      · exact plain h1
    · have h' : tA (vYld l) 17 (yieldK P E.gs.length (callN P E.gs.length E (cFn P E.gs.length) n) (vYld l).a args H kret kpan) = .done := h
      rw [tA_done] at h'
      exact yield_ok hcode ih h'.2 hH hG hm hv
end
end Go.Ev
