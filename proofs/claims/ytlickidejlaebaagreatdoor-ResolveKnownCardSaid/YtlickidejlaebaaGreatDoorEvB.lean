/- The evaluator of the text EvA: its operations do what the model says, under the relation of abstract and real heaps. -/
import Derived.Test.YtlickidejlaebaaGreatDoorEvA
import Derived.Laws.Sem
import Derived.Laws.World
import Derived.Laws.Cells
import Derived.CallsIn
import Derived.Laws.Strings
import Derived.Laws.Strings2
import GoSem.Dispatch
import Derived.Laws.Append
import Derived.Laws.NewFold
import Derived.LaidEql
set_option linter.constructorNameAsVariable false
set_option linter.unusedVariables false
set_option linter.unusedSimpArgs false
set_option linter.unusedSectionVars false
/-! Proofs, part 1: case distinctions, lists, trees. -/
namespace Go.Ev
set_option linter.unusedVariables false

/-! ## Case distinctions -/
@[simp] theorem cT_true {α : Type} (x y : α) : cT true x y = x := rfl
@[simp] theorem cT_false {α : Type} (x y : α) : cT false x y = y := rfl
@[simp] theorem cV_true (x y : AV) : cV true x y = x := rfl
@[simp] theorem cV_false (x y : AV) : cV false x y = y := rfl
@[simp] theorem cL_true (x y : List AV) : cL true x y = x := rfl
@[simp] theorem cL_false (x y : List AV) : cL false x y = y := rfl
@[simp] theorem cA_true (x y : Ans) : cA true x y = x := rfl
@[simp] theorem cA_false (x y : Ans) : cA false x y = y := rfl
@[simp] theorem bA_true (x y : Bool) : (bA x y = true) = (x = true ∧ y = true) := by cases x <;> cases y <;> simp [bA]
@[simp] theorem bA_true' (y : Bool) : bA true y = y := rfl
theorem bA_eq (x y : Bool) : bA x y = (x && y) := by cases x <;> rfl
theorem cT_eq {α : Type} (b : Bool) (x y : α) : cT b x y = if b then x else y := by cases b <;> rfl
theorem cV_eq (b : Bool) (x y : AV) : cV b x y = if b then x else y := by cases b <;> rfl
theorem cL_eq (b : Bool) (x y : List AV) : cL b x y = if b then x else y := by cases b <;> rfl
@[simp] theorem beq_t (n m : Nat) : (Nat.beq n m = true) = (n = m) := Nat.beq_eq
@[simp] theorem ble_t (n m : Nat) : (Nat.ble n m = true) = (n ≤ m) := by rw [Nat.ble_eq]
theorem beq_f {n m : Nat} (h : n ≠ m) : Nat.beq n m = false := by
  cases hb : Nat.beq n m with
  | false => rfl
  | true => exact absurd (Nat.eq_of_beq_eq_true hb) h
theorem ble_f {n m : Nat} (h : m < n) : Nat.ble n m = false := by
  cases hb : Nat.ble n m with
  | false => rfl
  | true => exact absurd (Nat.le_of_ble_eq_true hb) (by omega)
/-- a check that has been passed -/
@[simp] theorem cA_done (b : Bool) (x : Ans) (n : Nat) : (cA b x (.fail n) = .done) = (b = true ∧ x = .done) := by cases b <;> simp [cA]
@[simp] theorem fail_done (n : Nat) : ((Ans.fail n) = .done) = False := by simp
@[simp] theorem okA_done (v : AV) (x : Ans) : (okA v x = .done) = (v.t ≤ 24 ∧ x = .done) := by simp [okA]
@[simp] theorem tA_done (v : AV) (t : Nat) (x : Ans) : (tA v t x = .done) = (v.t = t ∧ x = .done) := by simp [tA]
@[simp] theorem andA_done (x y : Ans) : (andA x y = .done) = (x = .done ∧ y = .done) := by cases x <;> simp [andA]
theorem cA_cases {b : Bool} {x y : Ans} (h : cA b x y = .done) : (b = true ∧ x = .done) ∨ (b = false ∧ y = .done) := by
  cases b
  · exact .inr ⟨rfl, h⟩
  · exact .inl ⟨rfl, h⟩
@[simp] theorem vX_t : vX.t = 99 := rfl
/-- a value that is there -/
def Ok (v : AV) : Prop := v.t ≤ 24
@[simp] theorem not_ok_vX : Ok vX = False := by simp [Ok]
@[simp] theorem ok_cV (b : Bool) (x : AV) : Ok (cV b x vX) = (b = true ∧ Ok x) := by cases b <;> simp [Ok]
theorem ok_cV' {b : Bool} {x y : AV} (h : Ok (cV b x y)) : (b = true ∧ Ok x ∧ cV b x y = x) ∨ (b = false ∧ Ok y ∧ cV b x y = y) := by
  cases b
  · exact .inr ⟨rfl, h, rfl⟩
  · exact .inl ⟨rfl, h, rfl⟩

/-! ## Lists -/
theorem nthV_zero (v : AV) (r : List AV) : nthV 0 (v :: r) = v := rfl
theorem nthV_succ (i : Nat) (v : AV) (r : List AV) : nthV (i + 1) (v :: r) = nthV i r := rfl
theorem nthV_eq : ∀ (i : Nat) (cs : List AV), nthV i cs = cs.getD i vX
  | 0, [] => rfl
  | 0, v :: r => rfl
  | i + 1, [] => rfl
  | i + 1, v :: r => by rw [nthV_succ, nthV_eq i r]; simp
theorem nthV_ok {i : Nat} {cs : List AV} (h : Ok (nthV i cs)) : ∃ hi : i < cs.length, nthV i cs = cs[i] := by
  rw [nthV_eq] at h ⊢
  by_cases hi : i < cs.length
  · exact ⟨hi, by simp [hi]⟩
  · simp [List.getElem?_eq_none (Nat.le_of_not_lt hi)] at h
theorem takeL_eq : ∀ (n : Nat) (cs : List AV), takeL n cs = cs.take n
  | 0, cs => by show ([] : List AV) = _; simp
  | n + 1, [] => rfl
  | n + 1, v :: r => by
    show v :: takeL n r = _
    rw [takeL_eq n r]; rfl
theorem dropL_eq : ∀ (n : Nat) (cs : List AV), dropL n cs = cs.drop n
  | 0, cs => by show cs = _; simp
  | n + 1, [] => rfl
  | n + 1, v :: r => by
    show dropL n r = _
    rw [dropL_eq n r]; rfl
theorem tailL_eq (cs : List AV) : tailL cs = cs.drop 1 := by cases cs <;> rfl
theorem overL_eq : ∀ (vs cs : List AV), overL vs cs = vs ++ cs.drop vs.length
  | [], cs => by simp [overL, idL]
  | v :: vs, cs => by
    show v :: overL vs (tailL cs) = _
    rw [overL_eq vs, tailL_eq]; simp
theorem spliceL_eq : ∀ (n : Nat) (vs cs : List AV), n ≤ cs.length → spliceL n vs cs = cs.take n ++ vs ++ cs.drop (n + vs.length)
  | 0, vs, cs, _ => by show overL vs cs = _; rw [overL_eq]; simp
  | n + 1, vs, [], h => by simp at h
  | n + 1, vs, c :: cs, h => by
    show c :: spliceL n vs cs = _
    rw [spliceL_eq n vs cs (by simpa using h), show n + 1 + vs.length = (n + vs.length) + 1 by omega]
    simp
theorem lenIs_eq : ∀ (n : Nat) (cs : List AV), (lenIs n cs = true) = (cs.length = n)
  | 0, [] => by show (true = true) = _; simp
  | 0, v :: r => by show (false = true) = _; simp
  | n + 1, [] => by show (false = true) = _; simp
  | n + 1, v :: r => by
    show (lenIs n r = true) = _
    rw [lenIs_eq n r]; simp
theorem nilB_eq (cs : List AV) : (nilB cs = true) = (cs = []) := by cases cs <;> simp [nilB]
attribute [simp] lenIs_eq nilB_eq takeL_eq dropL_eq
theorem rangeL_eq (n o len : Nat) (cs : List AV) (h : (rangeL n o len cs).length = n) (hn : 0 < n) : rangeL n o len cs = (cs.drop o).take n ∧ o + n ≤ cs.length := by
  have key : rangeL n o len cs = cs ∧ o = 0 ∨ rangeL n o len cs = (cs.drop o).take n := by
    unfold rangeL
    cases hb : bA (Nat.beq o 0) (Nat.beq n len) with
    | true => simp at hb; exact .inl ⟨rfl, hb.1⟩
    | false => exact .inr (by simp)
  rcases key with ⟨k, rfl⟩ | k
  · rw [k] at h ⊢
    subst h
    simp
  · rw [k] at h ⊢
    simp at h ⊢
    omega
theorem okL_eq : ∀ vs : List AV, (okL vs = true) = (∀ v ∈ vs, Ok v)
  | [] => by simp [okL]
  | v :: vs => by
    show (bA (Nat.ble v.t 24) (okL vs) = true) = _
    simp [okL_eq vs, Ok]
attribute [simp] okL_eq
theorem appL_eq : ∀ l m : List AV, appL l m = l ++ m
  | [], m => rfl
  | v :: l, m => by show v :: appL l m = _; rw [appL_eq l m]; rfl
attribute [simp] appL_eq
theorem lA_nil (z : Ans) (s : AV → List AV → Ans) : lA [] z s = z := rfl
theorem lA_cons (v : AV) (r : List AV) (z : Ans) (s : AV → List AV → Ans) : lA (v :: r) z s = s v r := rfl
attribute [simp] lA_nil lA_cons

/-! ## Temporaries -/
/-- slot i set -/
noncomputable def qset : (d : Nat) → Nat → QT d → AV → QT d
  | 0, _, _, v => v
  | d + 1, i, t, v =>
    let t' : Q8 (QT d) := t
    match Nat.mod i 8 with
    | 0 => (⟨qset d (Nat.div i 8) t'.a v, t'.b, t'.c, t'.d, t'.e, t'.f, t'.g, t'.h⟩ : Q8 (QT d))
    | 1 => (⟨t'.a, qset d (Nat.div i 8) t'.b v, t'.c, t'.d, t'.e, t'.f, t'.g, t'.h⟩ : Q8 (QT d))
    | 2 => (⟨t'.a, t'.b, qset d (Nat.div i 8) t'.c v, t'.d, t'.e, t'.f, t'.g, t'.h⟩ : Q8 (QT d))
    | 3 => (⟨t'.a, t'.b, t'.c, qset d (Nat.div i 8) t'.d v, t'.e, t'.f, t'.g, t'.h⟩ : Q8 (QT d))
    | 4 => (⟨t'.a, t'.b, t'.c, t'.d, qset d (Nat.div i 8) t'.e v, t'.f, t'.g, t'.h⟩ : Q8 (QT d))
    | 5 => (⟨t'.a, t'.b, t'.c, t'.d, t'.e, qset d (Nat.div i 8) t'.f v, t'.g, t'.h⟩ : Q8 (QT d))
    | 6 => (⟨t'.a, t'.b, t'.c, t'.d, t'.e, t'.f, qset d (Nat.div i 8) t'.g v, t'.h⟩ : Q8 (QT d))
    | _ => (⟨t'.a, t'.b, t'.c, t'.d, t'.e, t'.f, t'.g, qset d (Nat.div i 8) t'.h v⟩ : Q8 (QT d))
theorem qset_succ (d i : Nat) (t : QT (d + 1)) (v : AV) : qset (d + 1) i t v =
    (let t' : Q8 (QT d) := t
     match Nat.mod i 8 with
    | 0 => (⟨qset d (Nat.div i 8) t'.a v, t'.b, t'.c, t'.d, t'.e, t'.f, t'.g, t'.h⟩ : Q8 (QT d))
    | 1 => (⟨t'.a, qset d (Nat.div i 8) t'.b v, t'.c, t'.d, t'.e, t'.f, t'.g, t'.h⟩ : Q8 (QT d))
    | 2 => (⟨t'.a, t'.b, qset d (Nat.div i 8) t'.c v, t'.d, t'.e, t'.f, t'.g, t'.h⟩ : Q8 (QT d))
    | 3 => (⟨t'.a, t'.b, t'.c, qset d (Nat.div i 8) t'.d v, t'.e, t'.f, t'.g, t'.h⟩ : Q8 (QT d))
    | 4 => (⟨t'.a, t'.b, t'.c, t'.d, qset d (Nat.div i 8) t'.e v, t'.f, t'.g, t'.h⟩ : Q8 (QT d))
    | 5 => (⟨t'.a, t'.b, t'.c, t'.d, t'.e, qset d (Nat.div i 8) t'.f v, t'.g, t'.h⟩ : Q8 (QT d))
    | 6 => (⟨t'.a, t'.b, t'.c, t'.d, t'.e, t'.f, qset d (Nat.div i 8) t'.g v, t'.h⟩ : Q8 (QT d))
    | _ => (⟨t'.a, t'.b, t'.c, t'.d, t'.e, t'.f, t'.g, qset d (Nat.div i 8) t'.h v⟩ : Q8 (QT d))
) := rfl
theorem mkSt_succ (d i : Nat) : mkSt (d + 1) i =
    (match Nat.mod i 8 with
    | 0 => ⟨sA (mkSt d (Nat.div i 8)).f⟩
    | 1 => ⟨sB (mkSt d (Nat.div i 8)).f⟩
    | 2 => ⟨sC (mkSt d (Nat.div i 8)).f⟩
    | 3 => ⟨sD (mkSt d (Nat.div i 8)).f⟩
    | 4 => ⟨sE (mkSt d (Nat.div i 8)).f⟩
    | 5 => ⟨sF (mkSt d (Nat.div i 8)).f⟩
    | 6 => ⟨sG (mkSt d (Nat.div i 8)).f⟩
    | _ => ⟨sH (mkSt d (Nat.div i 8)).f⟩
) := rfl
theorem mkGt_succ (d i : Nat) : mkGt (d + 1) i =
    (match Nat.mod i 8 with
    | 0 => ⟨gA (mkGt d (Nat.div i 8)).f⟩
    | 1 => ⟨gB (mkGt d (Nat.div i 8)).f⟩
    | 2 => ⟨gC (mkGt d (Nat.div i 8)).f⟩
    | 3 => ⟨gD (mkGt d (Nat.div i 8)).f⟩
    | 4 => ⟨gE (mkGt d (Nat.div i 8)).f⟩
    | 5 => ⟨gF (mkGt d (Nat.div i 8)).f⟩
    | 6 => ⟨gG (mkGt d (Nat.div i 8)).f⟩
    | _ => ⟨gH (mkGt d (Nat.div i 8)).f⟩
) := rfl
theorem st_qset : ∀ (d i : Nat) (t : QT d) (v : AV) (k : QT d → Ans), (mkSt d i).f t v k = k (qset d i t v)
  | 0, i, t, v, k => rfl
  | d + 1, i, t, v, k => by
    rw [qset_succ, mkSt_succ]
    dsimp only
    have hi8 : Nat.mod i 8 < 8 := Nat.mod_lt _ (by decide)
    generalize Nat.mod i 8 = p at *
    match p, hi8 with
    | 0, _ => exact st_qset d (Nat.div i 8) (Q8.a (α := QT d) t) v _
    | 1, _ => exact st_qset d (Nat.div i 8) (Q8.b (α := QT d) t) v _
    | 2, _ => exact st_qset d (Nat.div i 8) (Q8.c (α := QT d) t) v _
    | 3, _ => exact st_qset d (Nat.div i 8) (Q8.d (α := QT d) t) v _
    | 4, _ => exact st_qset d (Nat.div i 8) (Q8.e (α := QT d) t) v _
    | 5, _ => exact st_qset d (Nat.div i 8) (Q8.f (α := QT d) t) v _
    | 6, _ => exact st_qset d (Nat.div i 8) (Q8.g (α := QT d) t) v _
    | 7, _ => exact st_qset d (Nat.div i 8) (Q8.h (α := QT d) t) v _
@[simp] theorem st_eq (d i : Nat) (t : QT d) (v : AV) (k : QT d → Ans) : (st d i).f t v k = k (qset d i t v) := st_qset d i t v k
/-- slot i -/
noncomputable def qget (d i : Nat) (t : QT d) : AV := (mkGt d i).f t
theorem gt_eq (d i : Nat) (t : QT d) : (gt d i).f t = qget d i t := rfl
theorem qget_qset : ∀ (d i j : Nat) (t : QT d) (v : AV), i < 8 ^ d → j < 8 ^ d → qget d j (qset d i t v) = if j = i then v else qget d j t
  | 0, i, j, t, v, hi, hj => by
    have : i = 0 := by omega
    have : j = 0 := by omega
    subst i j
    simp [qget, qset, mkGt, gId]
  | d + 1, i, j, t, v, hi, hj => by
    have hi' : i / 8 < 8 ^ d := by rw [Nat.pow_succ] at hi; omega
    have hj' : j / 8 < 8 ^ d := by rw [Nat.pow_succ] at hj; omega
    have ih := fun (t : QT d) => qget_qset d (i / 8) (j / 8) t v hi' hj'
    have hij : (j = i) = (j % 8 = i % 8 ∧ j / 8 = i / 8) := by
      apply propext; constructor
      · rintro rfl; exact ⟨rfl, rfl⟩
      · intro ⟨h1, h2⟩; omega
    have hi8 : i % 8 < 8 := Nat.mod_lt _ (by decide)
    have hj8 : j % 8 < 8 := Nat.mod_lt _ (by decide)
    have hmi : Nat.mod i 8 = i % 8 := rfl
    have hmj : Nat.mod j 8 = j % 8 := rfl
    unfold qget
    rw [qset_succ, mkGt_succ]
    dsimp only
    rw [hmi, hmj]
    simp only [hij]
    generalize i % 8 = p at *
    generalize j % 8 = q at *
    match p, q, hi8, hj8 with
    | 0, 0, _, _ => show qget d (j / 8) (qset d (i / 8) (Q8.a (α := QT d) t) v) = if (0 = 0 ∧ j / 8 = i / 8) then v else qget d (j / 8) (Q8.a (α := QT d) t); rw [ih]; simp
    | 0, 1, _, _ => show qget d (j / 8) (Q8.b (α := QT d) t) = if (1 = 0 ∧ j / 8 = i / 8) then v else qget d (j / 8) (Q8.b (α := QT d) t); rw [if_neg (by simp)]
    | 0, 2, _, _ => show qget d (j / 8) (Q8.c (α := QT d) t) = if (2 = 0 ∧ j / 8 = i / 8) then v else qget d (j / 8) (Q8.c (α := QT d) t); rw [if_neg (by simp)]
    | 0, 3, _, _ => show qget d (j / 8) (Q8.d (α := QT d) t) = if (3 = 0 ∧ j / 8 = i / 8) then v else qget d (j / 8) (Q8.d (α := QT d) t); rw [if_neg (by simp)]
    | 0, 4, _, _ => show qget d (j / 8) (Q8.e (α := QT d) t) = if (4 = 0 ∧ j / 8 = i / 8) then v else qget d (j / 8) (Q8.e (α := QT d) t); rw [if_neg (by simp)]
    | 0, 5, _, _ => show qget d (j / 8) (Q8.f (α := QT d) t) = if (5 = 0 ∧ j / 8 = i / 8) then v else qget d (j / 8) (Q8.f (α := QT d) t); rw [if_neg (by simp)]
    | 0, 6, _, _ => show qget d (j / 8) (Q8.g (α := QT d) t) = if (6 = 0 ∧ j / 8 = i / 8) then v else qget d (j / 8) (Q8.g (α := QT d) t); rw [if_neg (by simp)]
    | 0, 7, _, _ => show qget d (j / 8) (Q8.h (α := QT d) t) = if (7 = 0 ∧ j / 8 = i / 8) then v else qget d (j / 8) (Q8.h (α := QT d) t); rw [if_neg (by simp)]
    | 1, 0, _, _ => show qget d (j / 8) (Q8.a (α := QT d) t) = if (0 = 1 ∧ j / 8 = i / 8) then v else qget d (j / 8) (Q8.a (α := QT d) t); rw [if_neg (by simp)]
    | 1, 1, _, _ => show qget d (j / 8) (qset d (i / 8) (Q8.b (α := QT d) t) v) = if (1 = 1 ∧ j / 8 = i / 8) then v else qget d (j / 8) (Q8.b (α := QT d) t); rw [ih]; simp
    | 1, 2, _, _ => show qget d (j / 8) (Q8.c (α := QT d) t) = if (2 = 1 ∧ j / 8 = i / 8) then v else qget d (j / 8) (Q8.c (α := QT d) t); rw [if_neg (by simp)]
    | 1, 3, _, _ => show qget d (j / 8) (Q8.d (α := QT d) t) = if (3 = 1 ∧ j / 8 = i / 8) then v else qget d (j / 8) (Q8.d (α := QT d) t); rw [if_neg (by simp)]
    | 1, 4, _, _ => show qget d (j / 8) (Q8.e (α := QT d) t) = if (4 = 1 ∧ j / 8 = i / 8) then v else qget d (j / 8) (Q8.e (α := QT d) t); rw [if_neg (by simp)]
    | 1, 5, _, _ => show qget d (j / 8) (Q8.f (α := QT d) t) = if (5 = 1 ∧ j / 8 = i / 8) then v else qget d (j / 8) (Q8.f (α := QT d) t); rw [if_neg (by simp)]
    | 1, 6, _, _ => show qget d (j / 8) (Q8.g (α := QT d) t) = if (6 = 1 ∧ j / 8 = i / 8) then v else qget d (j / 8) (Q8.g (α := QT d) t); rw [if_neg (by simp)]
    | 1, 7, _, _ => show qget d (j / 8) (Q8.h (α := QT d) t) = if (7 = 1 ∧ j / 8 = i / 8) then v else qget d (j / 8) (Q8.h (α := QT d) t); rw [if_neg (by simp)]
    | 2, 0, _, _ => show qget d (j / 8) (Q8.a (α := QT d) t) = if (0 = 2 ∧ j / 8 = i / 8) then v else qget d (j / 8) (Q8.a (α := QT d) t); rw [if_neg (by simp)]
    | 2, 1, _, _ => show qget d (j / 8) (Q8.b (α := QT d) t) = if (1 = 2 ∧ j / 8 = i / 8) then v else qget d (j / 8) (Q8.b (α := QT d) t); rw [if_neg (by simp)]
    | 2, 2, _, _ => show qget d (j / 8) (qset d (i / 8) (Q8.c (α := QT d) t) v) = if (2 = 2 ∧ j / 8 = i / 8) then v else qget d (j / 8) (Q8.c (α := QT d) t); rw [ih]; simp
    | 2, 3, _, _ => show qget d (j / 8) (Q8.d (α := QT d) t) = if (3 = 2 ∧ j / 8 = i / 8) then v else qget d (j / 8) (Q8.d (α := QT d) t); rw [if_neg (by simp)]
    | 2, 4, _, _ => show qget d (j / 8) (Q8.e (α := QT d) t) = if (4 = 2 ∧ j / 8 = i / 8) then v else qget d (j / 8) (Q8.e (α := QT d) t); rw [if_neg (by simp)]
    | 2, 5, _, _ => show qget d (j / 8) (Q8.f (α := QT d) t) = if (5 = 2 ∧ j / 8 = i / 8) then v else qget d (j / 8) (Q8.f (α := QT d) t); rw [if_neg (by simp)]
    | 2, 6, _, _ => show qget d (j / 8) (Q8.g (α := QT d) t) = if (6 = 2 ∧ j / 8 = i / 8) then v else qget d (j / 8) (Q8.g (α := QT d) t); rw [if_neg (by simp)]
    | 2, 7, _, _ => show qget d (j / 8) (Q8.h (α := QT d) t) = if (7 = 2 ∧ j / 8 = i / 8) then v else qget d (j / 8) (Q8.h (α := QT d) t); rw [if_neg (by simp)]
    | 3, 0, _, _ => show qget d (j / 8) (Q8.a (α := QT d) t) = if (0 = 3 ∧ j / 8 = i / 8) then v else qget d (j / 8) (Q8.a (α := QT d) t); rw [if_neg (by simp)]
    | 3, 1, _, _ => show qget d (j / 8) (Q8.b (α := QT d) t) = if (1 = 3 ∧ j / 8 = i / 8) then v else qget d (j / 8) (Q8.b (α := QT d) t); rw [if_neg (by simp)]
    | 3, 2, _, _ => show qget d (j / 8) (Q8.c (α := QT d) t) = if (2 = 3 ∧ j / 8 = i / 8) then v else qget d (j / 8) (Q8.c (α := QT d) t); rw [if_neg (by simp)]
    | 3, 3, _, _ => show qget d (j / 8) (qset d (i / 8) (Q8.d (α := QT d) t) v) = if (3 = 3 ∧ j / 8 = i / 8) then v else qget d (j / 8) (Q8.d (α := QT d) t); rw [ih]; simp
    | 3, 4, _, _ => show qget d (j / 8) (Q8.e (α := QT d) t) = if (4 = 3 ∧ j / 8 = i / 8) then v else qget d (j / 8) (Q8.e (α := QT d) t); rw [if_neg (by simp)]
    | 3, 5, _, _ => show qget d (j / 8) (Q8.f (α := QT d) t) = if (5 = 3 ∧ j / 8 = i / 8) then v else qget d (j / 8) (Q8.f (α := QT d) t); rw [if_neg (by simp)]
    | 3, 6, _, _ => show qget d (j / 8) (Q8.g (α := QT d) t) = if (6 = 3 ∧ j / 8 = i / 8) then v else qget d (j / 8) (Q8.g (α := QT d) t); rw [if_neg (by simp)]
    | 3, 7, _, _ => show qget d (j / 8) (Q8.h (α := QT d) t) = if (7 = 3 ∧ j / 8 = i / 8) then v else qget d (j / 8) (Q8.h (α := QT d) t); rw [if_neg (by simp)]
    | 4, 0, _, _ => show qget d (j / 8) (Q8.a (α := QT d) t) = if (0 = 4 ∧ j / 8 = i / 8) then v else qget d (j / 8) (Q8.a (α := QT d) t); rw [if_neg (by simp)]
    | 4, 1, _, _ => show qget d (j / 8) (Q8.b (α := QT d) t) = if (1 = 4 ∧ j / 8 = i / 8) then v else qget d (j / 8) (Q8.b (α := QT d) t); rw [if_neg (by simp)]
    | 4, 2, _, _ => show qget d (j / 8) (Q8.c (α := QT d) t) = if (2 = 4 ∧ j / 8 = i / 8) then v else qget d (j / 8) (Q8.c (α := QT d) t); rw [if_neg (by simp)]
    | 4, 3, _, _ => show qget d (j / 8) (Q8.d (α := QT d) t) = if (3 = 4 ∧ j / 8 = i / 8) then v else qget d (j / 8) (Q8.d (α := QT d) t); rw [if_neg (by simp)]
    | 4, 4, _, _ => show qget d (j / 8) (qset d (i / 8) (Q8.e (α := QT d) t) v) = if (4 = 4 ∧ j / 8 = i / 8) then v else qget d (j / 8) (Q8.e (α := QT d) t); rw [ih]; simp
    | 4, 5, _, _ => show qget d (j / 8) (Q8.f (α := QT d) t) = if (5 = 4 ∧ j / 8 = i / 8) then v else qget d (j / 8) (Q8.f (α := QT d) t); rw [if_neg (by simp)]
    | 4, 6, _, _ => show qget d (j / 8) (Q8.g (α := QT d) t) = if (6 = 4 ∧ j / 8 = i / 8) then v else qget d (j / 8) (Q8.g (α := QT d) t); rw [if_neg (by simp)]
    | 4, 7, _, _ => show qget d (j / 8) (Q8.h (α := QT d) t) = if (7 = 4 ∧ j / 8 = i / 8) then v else qget d (j / 8) (Q8.h (α := QT d) t); rw [if_neg (by simp)]
    | 5, 0, _, _ => show qget d (j / 8) (Q8.a (α := QT d) t) = if (0 = 5 ∧ j / 8 = i / 8) then v else qget d (j / 8) (Q8.a (α := QT d) t); rw [if_neg (by simp)]
    | 5, 1, _, _ => show qget d (j / 8) (Q8.b (α := QT d) t) = if (1 = 5 ∧ j / 8 = i / 8) then v else qget d (j / 8) (Q8.b (α := QT d) t); rw [if_neg (by simp)]
    | 5, 2, _, _ => show qget d (j / 8) (Q8.c (α := QT d) t) = if (2 = 5 ∧ j / 8 = i / 8) then v else qget d (j / 8) (Q8.c (α := QT d) t); rw [if_neg (by simp)]
    | 5, 3, _, _ => show qget d (j / 8) (Q8.d (α := QT d) t) = if (3 = 5 ∧ j / 8 = i / 8) then v else qget d (j / 8) (Q8.d (α := QT d) t); rw [if_neg (by simp)]
    | 5, 4, _, _ => show qget d (j / 8) (Q8.e (α := QT d) t) = if (4 = 5 ∧ j / 8 = i / 8) then v else qget d (j / 8) (Q8.e (α := QT d) t); rw [if_neg (by simp)]
    | 5, 5, _, _ => show qget d (j / 8) (qset d (i / 8) (Q8.f (α := QT d) t) v) = if (5 = 5 ∧ j / 8 = i / 8) then v else qget d (j / 8) (Q8.f (α := QT d) t); rw [ih]; simp
    | 5, 6, _, _ => show qget d (j / 8) (Q8.g (α := QT d) t) = if (6 = 5 ∧ j / 8 = i / 8) then v else qget d (j / 8) (Q8.g (α := QT d) t); rw [if_neg (by simp)]
    | 5, 7, _, _ => show qget d (j / 8) (Q8.h (α := QT d) t) = if (7 = 5 ∧ j / 8 = i / 8) then v else qget d (j / 8) (Q8.h (α := QT d) t); rw [if_neg (by simp)]
    | 6, 0, _, _ => show qget d (j / 8) (Q8.a (α := QT d) t) = if (0 = 6 ∧ j / 8 = i / 8) then v else qget d (j / 8) (Q8.a (α := QT d) t); rw [if_neg (by simp)]
    | 6, 1, _, _ => show qget d (j / 8) (Q8.b (α := QT d) t) = if (1 = 6 ∧ j / 8 = i / 8) then v else qget d (j / 8) (Q8.b (α := QT d) t); rw [if_neg (by simp)]
    | 6, 2, _, _ => show qget d (j / 8) (Q8.c (α := QT d) t) = if (2 = 6 ∧ j / 8 = i / 8) then v else qget d (j / 8) (Q8.c (α := QT d) t); rw [if_neg (by simp)]
    | 6, 3, _, _ => show qget d (j / 8) (Q8.d (α := QT d) t) = if (3 = 6 ∧ j / 8 = i / 8) then v else qget d (j / 8) (Q8.d (α := QT d) t); rw [if_neg (by simp)]
    | 6, 4, _, _ => show qget d (j / 8) (Q8.e (α := QT d) t) = if (4 = 6 ∧ j / 8 = i / 8) then v else qget d (j / 8) (Q8.e (α := QT d) t); rw [if_neg (by simp)]
    | 6, 5, _, _ => show qget d (j / 8) (Q8.f (α := QT d) t) = if (5 = 6 ∧ j / 8 = i / 8) then v else qget d (j / 8) (Q8.f (α := QT d) t); rw [if_neg (by simp)]
    | 6, 6, _, _ => show qget d (j / 8) (qset d (i / 8) (Q8.g (α := QT d) t) v) = if (6 = 6 ∧ j / 8 = i / 8) then v else qget d (j / 8) (Q8.g (α := QT d) t); rw [ih]; simp
    | 6, 7, _, _ => show qget d (j / 8) (Q8.h (α := QT d) t) = if (7 = 6 ∧ j / 8 = i / 8) then v else qget d (j / 8) (Q8.h (α := QT d) t); rw [if_neg (by simp)]
    | 7, 0, _, _ => show qget d (j / 8) (Q8.a (α := QT d) t) = if (0 = 7 ∧ j / 8 = i / 8) then v else qget d (j / 8) (Q8.a (α := QT d) t); rw [if_neg (by simp)]
    | 7, 1, _, _ => show qget d (j / 8) (Q8.b (α := QT d) t) = if (1 = 7 ∧ j / 8 = i / 8) then v else qget d (j / 8) (Q8.b (α := QT d) t); rw [if_neg (by simp)]
    | 7, 2, _, _ => show qget d (j / 8) (Q8.c (α := QT d) t) = if (2 = 7 ∧ j / 8 = i / 8) then v else qget d (j / 8) (Q8.c (α := QT d) t); rw [if_neg (by simp)]
    | 7, 3, _, _ => show qget d (j / 8) (Q8.d (α := QT d) t) = if (3 = 7 ∧ j / 8 = i / 8) then v else qget d (j / 8) (Q8.d (α := QT d) t); rw [if_neg (by simp)]
    | 7, 4, _, _ => show qget d (j / 8) (Q8.e (α := QT d) t) = if (4 = 7 ∧ j / 8 = i / 8) then v else qget d (j / 8) (Q8.e (α := QT d) t); rw [if_neg (by simp)]
    | 7, 5, _, _ => show qget d (j / 8) (Q8.f (α := QT d) t) = if (5 = 7 ∧ j / 8 = i / 8) then v else qget d (j / 8) (Q8.f (α := QT d) t); rw [if_neg (by simp)]
    | 7, 6, _, _ => show qget d (j / 8) (Q8.g (α := QT d) t) = if (6 = 7 ∧ j / 8 = i / 8) then v else qget d (j / 8) (Q8.g (α := QT d) t); rw [if_neg (by simp)]
    | 7, 7, _, _ => show qget d (j / 8) (qset d (i / 8) (Q8.h (α := QT d) t) v) = if (7 = 7 ∧ j / 8 = i / 8) then v else qget d (j / 8) (Q8.h (α := QT d) t); rw [ih]; simp
theorem qget_fill : ∀ (d i : Nat), qget d i (qFill d) = undefA
  | 0, i => rfl
  | d + 1, i => by
    unfold qget
    rw [mkGt_succ]
    split <;> exact qget_fill d _

/-! ## The heap -/
theorem sel4_of {α : Type} (n : Nat) (a b c d : α) (h : n < 4) : sel4 n a b c d = if n = 0 then a else if n = 1 then b else if n = 2 then c else d := by
  match n, h with
  | 0, _ => rfl
  | 1, _ => rfl
  | 2, _ => rfl
  | 3, _ => rfl
theorem and3 (i : Nat) : Nat.land i 3 = i % 4 := Nat.and_two_pow_sub_one_eq_mod i 2
theorem shr (i k : Nat) : Nat.shiftRight i k = i / 2 ^ k := Nat.shiftRight_eq_div_pow i k
theorem put4_get {α : Type} (p q : Nat) (x a b c d : α) (hp : p < 4) (hq : q < 4) :
    sel4 q (Q4.a (put4 p x a b c d)) (Q4.b (put4 p x a b c d)) (Q4.c (put4 p x a b c d)) (Q4.d (put4 p x a b c d)) =
      if q = p then x else sel4 q a b c d := by
  match p, q, hp, hq with
  | 0, 0, _, _ => rfl
  | 0, 1, _, _ => rfl
  | 0, 2, _, _ => rfl
  | 0, 3, _, _ => rfl
  | 1, 0, _, _ => rfl
  | 1, 1, _, _ => rfl
  | 1, 2, _, _ => rfl
  | 1, 3, _, _ => rfl
  | 2, 0, _, _ => rfl
  | 2, 1, _, _ => rfl
  | 2, 2, _, _ => rfl
  | 2, 3, _, _ => rfl
  | 3, 0, _, _ => rfl
  | 3, 1, _, _ => rfl
  | 3, 2, _, _ => rfl
  | 3, 3, _, _ => rfl
theorem mod4_step (i j m : Nat) : (i % (4 * m) = j % (4 * m)) = (i % m = j % m ∧ (i / m) % 4 = (j / m) % 4) := by
  apply propext
  rw [Nat.mul_comm 4 m, Nat.mod_mul, Nat.mod_mul]
  constructor
  · intro h
    rcases Nat.eq_zero_or_pos m with rfl | hm
    · simp at h; simp [h]
    · have h1 := Nat.mod_lt i hm
      have h2 := Nat.mod_lt j hm
      have e1 : (i % m + m * (i / m % 4)) % m = (j % m + m * (j / m % 4)) % m := by rw [h]
      simp at e1
      refine ⟨e1, ?_⟩
      rw [e1] at h
      exact Nat.eq_of_mul_eq_mul_left hm (by omega)
  · rintro ⟨h1, h2⟩; rw [h1, h2]
theorem hg1_hs1 (t : QH 1) (i j : Nat) (x : AB) : hg1 (hs1 t i x) j = if j % 4 = i % 4 then x else hg1 t j := by
  obtain ⟨a, b, c, d⟩ := (t : Q4 AB)
  show sel4 (Nat.land j 3) _ _ _ _ = _
  have := put4_get (α := AB) (i % 4) (j % 4) x a b c d (Nat.mod_lt _ (by decide)) (Nat.mod_lt _ (by decide))
  simp only [hs1, q4K, hs1k, and3] at this ⊢
  rw [this]
  split
  · rfl
  · simp only [hg1, and3]
theorem hg2_hs2 (t : QH 2) (i j : Nat) (x : AB) : hg2 (hs2 t i x) j = if j % 16 = i % 16 then x else hg2 t j := by
  obtain ⟨a, b, c, d⟩ := (t : Q4 (QH 1))
  have hd : ∀ n, Nat.land (Nat.shiftRight n 2) 3 = (n / 4) % 4 := fun n => by rw [and3, shr]
  have := put4_get (α := QH 1) (i / 4 % 4) (j / 4 % 4) (hs1 (sel4 (α := QH 1) (i / 4 % 4) a b c d) i x) a b c d (Nat.mod_lt _ (by decide)) (Nat.mod_lt _ (by decide))
  simp only [hs2, q4K, hs2k, hg2, hd] at this ⊢
  rw [this]
  simp only [show (j % 16 = i % 16) = (j % 4 = i % 4 ∧ (j / 4) % 4 = (i / 4) % 4) from mod4_step j i 4]
  by_cases h : j / 4 % 4 = i / 4 % 4
  · rw [if_pos h, hg1_hs1]
    by_cases h' : j % 4 = i % 4
    · simp [h, h']
    · simp [h, h']
  · simp [h]
theorem hg3_hs3 (t : QH 3) (i j : Nat) (x : AB) : hg3 (hs3 t i x) j = if j % 64 = i % 64 then x else hg3 t j := by
  obtain ⟨a, b, c, d⟩ := (t : Q4 (QH 2))
  have hd : ∀ n, Nat.land (Nat.shiftRight n 4) 3 = (n / 16) % 4 := fun n => by rw [and3, shr]
  have := put4_get (α := QH 2) (i / 16 % 4) (j / 16 % 4) (hs2 (sel4 (α := QH 2) (i / 16 % 4) a b c d) i x) a b c d (Nat.mod_lt _ (by decide)) (Nat.mod_lt _ (by decide))
  simp only [hs3, q4K, hs3k, hg3, hd] at this ⊢
  rw [this]
  simp only [show (j % 64 = i % 64) = (j % 16 = i % 16 ∧ (j / 16) % 4 = (i / 16) % 4) from mod4_step j i 16]
  by_cases h : j / 16 % 4 = i / 16 % 4
  · rw [if_pos h, hg2_hs2]
    by_cases h' : j % 16 = i % 16
    · simp [h, h']
    · simp [h, h']
  · simp [h]
theorem hg4_hs4 (t : QH 4) (i j : Nat) (x : AB) : hg4 (hs4 t i x) j = if j % 256 = i % 256 then x else hg4 t j := by
  obtain ⟨a, b, c, d⟩ := (t : Q4 (QH 3))
  have hd : ∀ n, Nat.land (Nat.shiftRight n 6) 3 = (n / 64) % 4 := fun n => by rw [and3, shr]
  have := put4_get (α := QH 3) (i / 64 % 4) (j / 64 % 4) (hs3 (sel4 (α := QH 3) (i / 64 % 4) a b c d) i x) a b c d (Nat.mod_lt _ (by decide)) (Nat.mod_lt _ (by decide))
  simp only [hs4, q4K, hs4k, hg4, hd] at this ⊢
  rw [this]
  simp only [show (j % 256 = i % 256) = (j % 64 = i % 64 ∧ (j / 64) % 4 = (i / 64) % 4) from mod4_step j i 64]
  by_cases h : j / 64 % 4 = i / 64 % 4
  · rw [if_pos h, hg3_hs3]
    by_cases h' : j % 64 = i % 64
    · simp [h, h']
    · simp [h, h']
  · simp [h]
theorem hg5_hs5 (t : QH 5) (i j : Nat) (x : AB) : hg5 (hs5 t i x) j = if j % 1024 = i % 1024 then x else hg5 t j := by
  obtain ⟨a, b, c, d⟩ := (t : Q4 (QH 4))
  have hd : ∀ n, Nat.land (Nat.shiftRight n 8) 3 = (n / 256) % 4 := fun n => by rw [and3, shr]
  have := put4_get (α := QH 4) (i / 256 % 4) (j / 256 % 4) (hs4 (sel4 (α := QH 4) (i / 256 % 4) a b c d) i x) a b c d (Nat.mod_lt _ (by decide)) (Nat.mod_lt _ (by decide))
  simp only [hs5, q4K, hs5k, hg5, hd] at this ⊢
  rw [this]
  simp only [show (j % 1024 = i % 1024) = (j % 256 = i % 256 ∧ (j / 256) % 4 = (i / 256) % 4) from mod4_step j i 256]
  by_cases h : j / 256 % 4 = i / 256 % 4
  · rw [if_pos h, hg4_hs4]
    by_cases h' : j % 256 = i % 256
    · simp [h, h']
    · simp [h, h']
  · simp [h]
theorem hg6_hs6 (t : QH 6) (i j : Nat) (x : AB) : hg6 (hs6 t i x) j = if j % 4096 = i % 4096 then x else hg6 t j := by
  obtain ⟨a, b, c, d⟩ := (t : Q4 (QH 5))
  have hd : ∀ n, Nat.land (Nat.shiftRight n 10) 3 = (n / 1024) % 4 := fun n => by rw [and3, shr]
  have := put4_get (α := QH 5) (i / 1024 % 4) (j / 1024 % 4) (hs5 (sel4 (α := QH 5) (i / 1024 % 4) a b c d) i x) a b c d (Nat.mod_lt _ (by decide)) (Nat.mod_lt _ (by decide))
  simp only [hs6, q4K, hs6k, hg6, hd] at this ⊢
  rw [this]
  simp only [show (j % 4096 = i % 4096) = (j % 1024 = i % 1024 ∧ (j / 1024) % 4 = (i / 1024) % 4) from mod4_step j i 1024]
  by_cases h : j / 1024 % 4 = i / 1024 % 4
  · rw [if_pos h, hg5_hs5]
    by_cases h' : j % 1024 = i % 1024
    · simp [h, h']
    · simp [h, h']
  · simp [h]
theorem hg7_hs7 (t : QH 7) (i j : Nat) (x : AB) : hg7 (hs7 t i x) j = if j % 16384 = i % 16384 then x else hg7 t j := by
  obtain ⟨a, b, c, d⟩ := (t : Q4 (QH 6))
  have hd : ∀ n, Nat.land (Nat.shiftRight n 12) 3 = (n / 4096) % 4 := fun n => by rw [and3, shr]
  have := put4_get (α := QH 6) (i / 4096 % 4) (j / 4096 % 4) (hs6 (sel4 (α := QH 6) (i / 4096 % 4) a b c d) i x) a b c d (Nat.mod_lt _ (by decide)) (Nat.mod_lt _ (by decide))
  simp only [hs7, q4K, hs7k, hg7, hd] at this ⊢
  rw [this]
  simp only [show (j % 16384 = i % 16384) = (j % 4096 = i % 4096 ∧ (j / 4096) % 4 = (i / 4096) % 4) from mod4_step j i 4096]
  by_cases h : j / 4096 % 4 = i / 4096 % 4
  · rw [if_pos h, hg6_hs6]
    by_cases h' : j % 4096 = i % 4096
    · simp [h, h']
    · simp [h, h']
  · simp [h]
theorem hg8_hs8 (t : QH 8) (i j : Nat) (x : AB) : hg8 (hs8 t i x) j = if j % 65536 = i % 65536 then x else hg8 t j := by
  obtain ⟨a, b, c, d⟩ := (t : Q4 (QH 7))
  have hd : ∀ n, Nat.land (Nat.shiftRight n 14) 3 = (n / 16384) % 4 := fun n => by rw [and3, shr]
  have := put4_get (α := QH 7) (i / 16384 % 4) (j / 16384 % 4) (hs7 (sel4 (α := QH 7) (i / 16384 % 4) a b c d) i x) a b c d (Nat.mod_lt _ (by decide)) (Nat.mod_lt _ (by decide))
  simp only [hs8, q4K, hs8k, hg8, hd] at this ⊢
  rw [this]
  simp only [show (j % 65536 = i % 65536) = (j % 16384 = i % 16384 ∧ (j / 16384) % 4 = (i / 16384) % 4) from mod4_step j i 16384]
  by_cases h : j / 16384 % 4 = i / 16384 % 4
  · rw [if_pos h, hg7_hs7]
    by_cases h' : j % 16384 = i % 16384
    · simp [h, h']
    · simp [h, h']
  · simp [h]
theorem hget_hset (H : Heap) (b b' : Nat) (x : AB) (hb : b < 65536) (hb' : b' < 65536) : hget (hset H b x) b' = if b' = b then x else hget H b' := by
  show hg8 (hs8 H.t b x) b' = _
  rw [hg8_hs8, Nat.mod_eq_of_lt hb, Nat.mod_eq_of_lt hb']
  rfl
theorem hget_hnew (H : Heap) (b' : Nat) (x : AB) (hb : H.nx < 65536) (hb' : b' < 65536) : hget (hnew H x) b' = if b' = H.nx then x else hget H b' := hget_hset H H.nx b' x hb hb'
@[simp] theorem hset_nx (H : Heap) (b : Nat) (x : AB) : (hset H b x).nx = H.nx := rfl
@[simp] theorem hnew_nx (H : Heap) (x : AB) : (hnew H x).nx = H.nx + 1 := rfl
@[simp] theorem hnewK_done (H : Heap) (x : AB) (k : Nat → Heap → Ans) : (hnewK H x k = .done) = (H.nx ≤ 65534 ∧ k H.nx (hnew H x) = .done) := by simp [hnewK]

/-! ## Trees of elements -/

theorem htGet_e (df : List AV) (f i : Nat) : htGet df f .e i = df := by cases f <;> rfl
theorem htSet_get (df : List AV) : ∀ (f : Nat) (t : HT (List AV)) (i j : Nat) (x : List AV), 3 * i + 1 < 4 ^ f → 3 * j + 1 < 4 ^ f → htGet df f (htSet df f t i x) j = if j = i then x else htGet df f t j := by
  intro f
  induction f with
  | zero => intro t i j x hi; simp at hi
  | succ f ih =>
    have node : ∀ (v : List AV) (a b c d : HT (List AV)) (i j : Nat) (x : List AV), 3 * i + 1 < 4 ^ (f + 1) → 3 * j + 1 < 4 ^ (f + 1) →
        htGet df (f + 1) (hts1 (htSet df f) i x v a b c d) j = if j = i then x else htGet df (f + 1) (.n v a b c d) j := by
      intro v a b c d i j x hi hj
      rw [Nat.pow_succ] at hi hj
      cases i with
      | zero =>
        show htGet df (f + 1) (.n x a b c d) j = _
        cases j with
        | zero => rfl
        | succ j => simp; rfl
      | succ i =>
        have hi' : 3 * (i / 4) + 1 < 4 ^ f := by omega
        show htGet df (f + 1) (hts2 (htSet df f) x v a b c d i) j = _
        unfold hts2 htc
        rw [and3, shr]
        cases j with
        | zero =>
          simp only [show ¬ (0 = i + 1) by omega, if_false]
          rw [sel4_of _ _ _ _ _ (Nat.mod_lt _ (by decide))]
          split
          · rfl
          · split
            · rfl
            · split <;> rfl
        | succ j =>
          have hj' : 3 * (j / 4) + 1 < 4 ^ f := by omega
          have hnode : ∀ a b c d, htGet df (f + 1) (.n v a b c d) (j + 1) = htGet df f (sel4 (j % 4) a b c d) (j / 4) := fun a b c d => by
            show htg2 (htGet df f) a b c d j = _
            unfold htg2; rw [and3, shr]
          rw [hnode]
          have hi4 : i % 4 < 4 := Nat.mod_lt _ (by decide)
          have hj4 : j % 4 < 4 := Nat.mod_lt _ (by decide)
          have hij : (j + 1 = i + 1) = (j % 4 = i % 4 ∧ j / 4 = i / 4) := by
            apply propext; constructor
            · intro h; have : j = i := by omega
              subst this; exact ⟨rfl, rfl⟩
            · rintro ⟨h1, h2⟩; omega
          simp only [hij, show (2 : Nat) ^ 2 = 4 from rfl]
          have ihh := fun t => ih t (i / 4) (j / 4) x hi' hj'
          generalize i % 4 = p at *
          generalize j % 4 = q at *
          match p, q, hi4, hj4 with
          | 0, 0, _, _ => show htGet df (f + 1) (.n v (htSet df f a (i / 4) x) b c d) (j + 1) = if (0 = 0 ∧ j / 4 = i / 4) then x else htGet df f a (j / 4); rw [hnode]; show htGet df f (htSet df f a (i / 4) x) (j / 4) = _; rw [ihh]; simp
          | 0, 1, _, _ => show htGet df (f + 1) (.n v (htSet df f a (i / 4) x) b c d) (j + 1) = if (1 = 0 ∧ j / 4 = i / 4) then x else htGet df f b (j / 4); rw [hnode, if_neg (by simp)]; rfl
          | 0, 2, _, _ => show htGet df (f + 1) (.n v (htSet df f a (i / 4) x) b c d) (j + 1) = if (2 = 0 ∧ j / 4 = i / 4) then x else htGet df f c (j / 4); rw [hnode, if_neg (by simp)]; rfl
          | 0, 3, _, _ => show htGet df (f + 1) (.n v (htSet df f a (i / 4) x) b c d) (j + 1) = if (3 = 0 ∧ j / 4 = i / 4) then x else htGet df f d (j / 4); rw [hnode, if_neg (by simp)]; rfl
          | 1, 0, _, _ => show htGet df (f + 1) (.n v a (htSet df f b (i / 4) x) c d) (j + 1) = if (0 = 1 ∧ j / 4 = i / 4) then x else htGet df f a (j / 4); rw [hnode, if_neg (by simp)]; rfl
          | 1, 1, _, _ => show htGet df (f + 1) (.n v a (htSet df f b (i / 4) x) c d) (j + 1) = if (1 = 1 ∧ j / 4 = i / 4) then x else htGet df f b (j / 4); rw [hnode]; show htGet df f (htSet df f b (i / 4) x) (j / 4) = _; rw [ihh]; simp
          | 1, 2, _, _ => show htGet df (f + 1) (.n v a (htSet df f b (i / 4) x) c d) (j + 1) = if (2 = 1 ∧ j / 4 = i / 4) then x else htGet df f c (j / 4); rw [hnode, if_neg (by simp)]; rfl
          | 1, 3, _, _ => show htGet df (f + 1) (.n v a (htSet df f b (i / 4) x) c d) (j + 1) = if (3 = 1 ∧ j / 4 = i / 4) then x else htGet df f d (j / 4); rw [hnode, if_neg (by simp)]; rfl
          | 2, 0, _, _ => show htGet df (f + 1) (.n v a b (htSet df f c (i / 4) x) d) (j + 1) = if (0 = 2 ∧ j / 4 = i / 4) then x else htGet df f a (j / 4); rw [hnode, if_neg (by simp)]; rfl
          | 2, 1, _, _ => show htGet df (f + 1) (.n v a b (htSet df f c (i / 4) x) d) (j + 1) = if (1 = 2 ∧ j / 4 = i / 4) then x else htGet df f b (j / 4); rw [hnode, if_neg (by simp)]; rfl
          | 2, 2, _, _ => show htGet df (f + 1) (.n v a b (htSet df f c (i / 4) x) d) (j + 1) = if (2 = 2 ∧ j / 4 = i / 4) then x else htGet df f c (j / 4); rw [hnode]; show htGet df f (htSet df f c (i / 4) x) (j / 4) = _; rw [ihh]; simp
          | 2, 3, _, _ => show htGet df (f + 1) (.n v a b (htSet df f c (i / 4) x) d) (j + 1) = if (3 = 2 ∧ j / 4 = i / 4) then x else htGet df f d (j / 4); rw [hnode, if_neg (by simp)]; rfl
          | 3, 0, _, _ => show htGet df (f + 1) (.n v a b c (htSet df f d (i / 4) x)) (j + 1) = if (0 = 3 ∧ j / 4 = i / 4) then x else htGet df f a (j / 4); rw [hnode, if_neg (by simp)]; rfl
          | 3, 1, _, _ => show htGet df (f + 1) (.n v a b c (htSet df f d (i / 4) x)) (j + 1) = if (1 = 3 ∧ j / 4 = i / 4) then x else htGet df f b (j / 4); rw [hnode, if_neg (by simp)]; rfl
          | 3, 2, _, _ => show htGet df (f + 1) (.n v a b c (htSet df f d (i / 4) x)) (j + 1) = if (2 = 3 ∧ j / 4 = i / 4) then x else htGet df f c (j / 4); rw [hnode, if_neg (by simp)]; rfl
          | 3, 3, _, _ => show htGet df (f + 1) (.n v a b c (htSet df f d (i / 4) x)) (j + 1) = if (3 = 3 ∧ j / 4 = i / 4) then x else htGet df f d (j / 4); rw [hnode]; show htGet df f (htSet df f d (i / 4) x) (j / 4) = _; rw [ihh]; simp
    intro t i j x hi hj
    cases t with
    | n v a b c d => exact node v a b c d i j x hi hj
    | e =>
      have := node df .e .e .e .e i j x hi hj
      show htGet df (f + 1) (hts1 (htSet df f) i x df .e .e .e .e) j = _
      rw [this]
      split
      · rfl
      · rw [htGet_e]
        cases j with
        | zero => rfl
        | succ j =>
          show htg2 (htGet df f) .e .e .e .e j = _
          unfold htg2
          rw [sel4_of _ _ _ _ _ (by rw [and3]; exact Nat.mod_lt _ (by decide))]
          simp [htGet_e]
theorem HD_lt {i : Nat} (h : i < 1099511627776) : 3 * i + 1 < 4 ^ HD := by
  show 3 * i + 1 < 4 ^ 22
  have : (4 : Nat) ^ 22 = 17592186044416 := by decide
  omega
end Go.Ev


/-! Proofs, part 2: what the evaluator's values, blocks and temporaries stand for. -/
namespace Go.Ev
set_option linter.unusedVariables false
set_option linter.unusedSimpArgs false

/-- where an abstract block lies: the block, by how many cells it is shifted, how many cells the block has, how many an element has -/
structure MB where
  c : Nat
  q : Nat
  z : Nat
  s : Nat
abbrev Mu := Nat → Option MB
def Mu.le (μ μ' : Mu) : Prop := ∀ b m, μ b = some m → μ' b = some m
theorem Mu.le_refl (μ : Mu) : μ.le μ := fun _ _ h => h
theorem Mu.le_trans {μ μ' μ'' : Mu} (h : μ.le μ') (h' : μ'.le μ'') : μ.le μ'' := fun b m hb => h' b m (h b m hb)

/-! ## Values -/
inductive VR (μ : Mu) : AV → Value → Prop
  | f : VR μ vF (.bool false)
  | t : VR μ vT (.bool true)
  | int (k : IntKind) (n : Int) (h : -9223372036854775808 ≤ n) : VR μ (vInt (kc k) (biasI n)) (.int k n)
  | str (s : ByteArray) : VR μ (vStr s.data.toList.length (packB s.data.toList)) (.string s)
  | ptr (b o : Nat) (m : MB) (h : μ b = some m) : VR μ (vPtr b o) (.pointer (some ⟨m.c, o + m.q, none⟩))
  | nilp : VR μ vNilp (.pointer none)
  | slK (b o n cap : Nat) (m : MB) (h : μ b = some m) (hn : n ≤ cap) : VR μ (vSl b o n (cap + 1)) (.slice (some ⟨m.c, o + m.q, none⟩) n cap)
  | slU (b o n cap : Nat) (m : MB) (h : μ b = some m) (hn : n ≤ cap) (hz : o + m.q + cap * m.s = m.z) : VR μ (vSl b o n 0) (.slice (some ⟨m.c, o + m.q, none⟩) n cap)
  | slE (b o o' : Nat) (m : MB) (h : μ b = some m) (hz : o + m.q = m.z) : VR μ (vSl b o 0 0) (.slice (some ⟨m.c, o', none⟩) 0 0)
  | nils : VR μ vNils (.slice none 0 0)
  | map (b : Nat) (m : MB) (h : μ b = some m) : VR μ (vMap b) (.map (some m.c))
  | nilm : VR μ vNilm (.map none)
  | fn (f : Nat) (l m : List AV) (xs ys : List Value) (hl : l.length = xs.length) (hl' : ∀ i, i < l.length → VR μ (l.getD i vX) (xs.getD i undef))
      (hm : m.length = ys.length) (hm' : ∀ i, i < m.length → VR μ (m.getD i vX) (ys.getD i undef)) : VR μ (vFn f l m) (.func (.func f) ⟨xs⟩ ⟨ys⟩)
  | yld (b : Nat) (m : MB) (h : μ b = some m) : VR μ (vYld b) (.func (.yield m.c) #[] #[])
  | nilf : VR μ vNilf .nilFunc
  | ifc (t : Nat) (v : AV) (x : Value) (h : VR μ v x) : VR μ (vIfc t v) (.iface t x)
  | nili : VR μ vNili .nilIface
  | agg (cs : List AV) (xs : List Value) (hl : cs.length = xs.length) (hl' : ∀ i, i < cs.length → VR μ (cs.getD i vX) (xs.getD i undef))
      (h1 : ∀ x ∈ xs, x.oneCell' = true) : VR μ (vAgg cs.length cs) (.agg ⟨xs⟩)
  | tup (cs : List AV) (xs : List Value) (hl : cs.length = xs.length) (hl' : ∀ i, i < cs.length → VR μ (cs.getD i vX) (xs.getD i undef)) : VR μ (vTup cs) (.tuple ⟨xs⟩)

/-- value by value -/
def VRs (μ : Mu) (l : List AV) (xs : List Value) : Prop := l.length = xs.length ∧ ∀ i, i < l.length → VR μ (l.getD i vX) (xs.getD i undef)
section
variable {μ μ' : Mu}
theorem VR.mono {v : AV} {x : Value} (h : VR μ v x) (hm : μ.le μ') : VR μ' v x := by
  induction h with
  | f => exact .f
  | t => exact .t
  | int k n h => exact .int k n h
  | str s => exact .str s
  | ptr b o m h => exact .ptr b o m (hm _ _ h)
  | nilp => exact .nilp
  | slK b o n cap m h hn => exact .slK b o n cap m (hm _ _ h) hn
  | slU b o n cap m h hn hz => exact .slU b o n cap m (hm _ _ h) hn hz
  | slE b o o' m h hz => exact .slE b o o' m (hm _ _ h) hz
  | nils => exact .nils
  | map b m h => exact .map b m (hm _ _ h)
  | nilm => exact .nilm
  | fn f l m xs ys hl _ hm' _ i1 i2 => exact .fn f l m xs ys hl i1 hm' i2
  | yld b m h => exact .yld b m (hm _ _ h)
  | nilf => exact .nilf
  | ifc t v x _ i => exact .ifc t v x i
  | nili => exact .nili
  | agg cs xs hl _ h1 i => exact .agg cs xs hl i h1
  | tup cs xs hl _ i => exact .tup cs xs hl i
theorem VRs.mono {l : List AV} {xs : List Value} (h : VRs μ l xs) (hm : μ.le μ') : VRs μ' l xs := ⟨h.1, fun i hi => (h.2 i hi).mono hm⟩
theorem VRs.nil : VRs μ [] [] := ⟨rfl, fun i hi => by simp at hi⟩
theorem VRs.cons {v : AV} {x : Value} {l : List AV} {xs : List Value} (h : VR μ v x) (hs : VRs μ l xs) : VRs μ (v :: l) (x :: xs) := by
  refine ⟨by simp [hs.1], fun i hi => ?_⟩
  cases i with
  | zero => simpa using h
  | succ i => simpa using hs.2 i (by simpa using hi)
theorem VRs.cons_inv {v : AV} {l : List AV} {xs : List Value} (h : VRs μ (v :: l) xs) : ∃ x ys, xs = x :: ys ∧ VR μ v x ∧ VRs μ l ys := by
  cases xs with
  | nil => have := h.1; simp at this
  | cons x ys =>
    refine ⟨x, ys, rfl, by simpa using h.2 0 (by simp), by simpa using h.1, fun i hi => by simpa using h.2 (i + 1) (by simpa using hi)⟩
theorem VRs.nil_inv {xs : List Value} (h : VRs μ [] xs) : xs = [] := by
  have := h.1; exact List.eq_nil_of_length_eq_zero (by simpa using this.symm)
theorem VRs.single {v : AV} {x : Value} (h : VR μ v x) : VRs μ [v] [x] := .cons h .nil
theorem VRs.append {l m : List AV} {xs ys : List Value} (h : VRs μ l xs) (h' : VRs μ m ys) : VRs μ (l ++ m) (xs ++ ys) := by
  induction l generalizing xs with
  | nil => rw [h.nil_inv]; exact h'
  | cons v l ih =>
    obtain ⟨x, zs, rfl, hv, hs⟩ := h.cons_inv
    exact .cons hv (ih hs)
theorem VRs.take {l : List AV} {xs : List Value} (h : VRs μ l xs) (n : Nat) : VRs μ (l.take n) (xs.take n) := by
  induction l generalizing xs n with
  | nil => rw [h.nil_inv]; simp; exact .nil
  | cons v l ih =>
    obtain ⟨x, zs, rfl, hv, hs⟩ := h.cons_inv
    cases n with
    | zero => exact .nil
    | succ n => exact .cons hv (ih hs n)
theorem VRs.drop {l : List AV} {xs : List Value} (h : VRs μ l xs) (n : Nat) : VRs μ (l.drop n) (xs.drop n) := by
  induction l generalizing xs n with
  | nil => rw [h.nil_inv]; simp; exact .nil
  | cons v l ih =>
    obtain ⟨x, zs, rfl, hv, hs⟩ := h.cons_inv
    cases n with
    | zero => exact .cons hv hs
    | succ n => exact ih hs n
theorem VRs.get {l : List AV} {xs : List Value} (h : VRs μ l xs) (i : Nat) (hi : i < l.length) : ∃ x, xs[i]? = some x ∧ VR μ l[i] x := by
  have hi' : i < xs.length := h.1 ▸ hi
  refine ⟨xs[i], by simp [hi'], ?_⟩
  have := h.2 i hi
  simpa [List.getD, hi, hi'] using this
theorem VRs.nth {l : List AV} {xs : List Value} (h : VRs μ l xs) {i : Nat} (hi : Ok (nthV i l)) : ∃ x, xs[i]? = some x ∧ VR μ (nthV i l) x := by
  obtain ⟨hlt, he⟩ := nthV_ok hi
  obtain ⟨x, hx, hv⟩ := h.get i hlt
  exact ⟨x, hx, he ▸ hv⟩
theorem VRs.splice {l vs : List AV} {xs ys : List Value} (h : VRs μ l xs) (h' : VRs μ vs ys) (n : Nat) :
    VRs μ (l.take n ++ vs ++ l.drop (n + vs.length)) (xs.take n ++ ys ++ xs.drop (n + ys.length)) := by
  rw [← h'.1]; exact ((h.take n).append h').append (h.drop _)

theorem kc_range (k : IntKind) : 8 ≤ kc k ∧ kc k ≤ 15 := by cases k <;> decide
theorem kc_inj {k k' : IntKind} (h : kc k = kc k') : k = k' := by cases k <;> cases k' <;> first | rfl | (simp [kc] at h)
theorem VR.ok {v : AV} {x : Value} (h : VR μ v x) : Ok v := by
  cases h <;> simp [Ok, vF, vT, vInt, vStr, vPtr, vNilp, vSl, vNils, vMap, vNilm, vFn, vYld, vNilf, vIfc, vNili, vAgg, vTup]
  have := kc_range; rename_i k n h; exact Nat.le_trans (this k).2 (by decide)
theorem VRs.ok {l : List AV} {xs : List Value} (h : VRs μ l xs) : ∀ v ∈ l, Ok v := by
  intro v hv
  obtain ⟨i, hi, rfl⟩ := List.getElem_of_mem hv
  obtain ⟨x, _, hx⟩ := h.get i hi
  exact hx.ok

/-! ### what a value is, by its tag -/
theorem biasI_eq {n : Int} (h : -9223372036854775808 ≤ n) : ((biasI n : Nat) : Int) = n + 9223372036854775808 := by unfold biasI; omega
theorem unbias_bias {n : Int} (h : -9223372036854775808 ≤ n) : unbias (biasI n) = n := by unfold unbias; rw [biasI_eq h]; omega
theorem VR.inv_f {v : AV} {x : Value} (h : VR μ v x) (ht : v.t = 0) : x = .bool false := by
  cases h with
  | f => exact rfl
  | int k n h => exfalso; have := kc_range k; simp [vInt] at ht; omega
  | _ => simp [vF, vT, vInt, vStr, vPtr, vNilp, vSl, vNils, vMap, vNilm, vFn, vYld, vNilf, vIfc, vNili, vAgg, vTup] at ht
theorem VR.inv_t {v : AV} {x : Value} (h : VR μ v x) (ht : v.t = 1) : x = .bool true := by
  cases h with
  | t => exact rfl
  | int k n h => exfalso; have := kc_range k; simp [vInt] at ht; omega
  | _ => simp [vF, vT, vInt, vStr, vPtr, vNilp, vSl, vNils, vMap, vNilm, vFn, vYld, vNilf, vIfc, vNili, vAgg, vTup] at ht
theorem VR.inv_bool {v : AV} {x : Value} (h : VR μ v x) (ht : v.t ≤ 1) : ∃ b, x = .bool b ∧ v = vB b := by
  cases h with
  | f => exact ⟨false, rfl, rfl⟩
  | t => exact ⟨true, rfl, rfl⟩
  | int k n h => exfalso; have := kc_range k; simp [vInt] at ht; omega
  | _ => simp [vF, vT, vInt, vStr, vPtr, vNilp, vSl, vNils, vMap, vNilm, vFn, vYld, vNilf, vIfc, vNili, vAgg, vTup] at ht
theorem VR.inv_isI {v : AV} {x : Value} (h : VR μ v x) (ht : 8 ≤ v.t ∧ v.t ≤ 15) : ∃ k n, -9223372036854775808 ≤ n ∧ x = .int k n ∧ v = vInt (kc k) (biasI n) := by
  cases h with
  | int k n h => exact ⟨k, n, h, rfl, rfl⟩
  | _ => simp [vF, vT, vInt, vStr, vPtr, vNilp, vSl, vNils, vMap, vNilm, vFn, vYld, vNilf, vIfc, vNili, vAgg, vTup] at ht
theorem VR.inv_int {v : AV} {x : Value} {k : IntKind} (h : VR μ v x) (ht : v.t = kc k) : ∃ n, -9223372036854775808 ≤ n ∧ x = .int k n ∧ v = vInt (kc k) (biasI n) := by
  obtain ⟨k', n, hn, rfl, rfl⟩ := h.inv_isI (by have := kc_range k; omega)
  obtain rfl := kc_inj ht
  exact ⟨n, hn, rfl, rfl⟩
theorem VR.inv_str {v : AV} {x : Value} (h : VR μ v x) (ht : v.t = 2) : ∃ s, x = .string s ∧ v = vStr s.data.toList.length (packB s.data.toList) := by
  cases h with
  | str s => exact ⟨s, rfl, rfl⟩
  | int k n h => exfalso; have := kc_range k; simp [vInt] at ht; omega
  | _ => simp [vF, vT, vInt, vStr, vPtr, vNilp, vSl, vNils, vMap, vNilm, vFn, vYld, vNilf, vIfc, vNili, vAgg, vTup] at ht
theorem VR.inv_ptr {v : AV} {x : Value} (h : VR μ v x) (ht : v.t = 3) : ∃ m, μ v.a = some m ∧ x = .pointer (some ⟨m.c, v.b + m.q, none⟩) ∧ v = vPtr v.a v.b := by
  cases h with
  | ptr b o m h => exact ⟨m, h, rfl, rfl⟩
  | int k n h => exfalso; have := kc_range k; simp [vInt] at ht; omega
  | _ => simp [vF, vT, vInt, vStr, vPtr, vNilp, vSl, vNils, vMap, vNilm, vFn, vYld, vNilf, vIfc, vNili, vAgg, vTup] at ht
theorem VR.inv_nilp {v : AV} {x : Value} (h : VR μ v x) (ht : v.t = 4) : x = .pointer none ∧ v = vNilp := by
  cases h with
  | nilp => exact ⟨rfl, rfl⟩
  | int k n h => exfalso; have := kc_range k; simp [vInt] at ht; omega
  | _ => simp [vF, vT, vInt, vStr, vPtr, vNilp, vSl, vNils, vMap, vNilm, vFn, vYld, vNilf, vIfc, vNili, vAgg, vTup] at ht
theorem VR.inv_sl {v : AV} {x : Value} (h : VR μ v x) (ht : v.t = 5) : ∃ m off cap, μ v.a = some m ∧ x = .slice (some ⟨m.c, off, none⟩) v.c cap ∧ v = vSl v.a v.b v.c v.d ∧ v.c ≤ cap ∧ (off = v.b + m.q ∨ v.d = 0 ∧ v.c = 0 ∧ cap = 0 ∧ v.b + m.q = m.z) ∧ (v.d = cap + 1 ∨ v.d = 0 ∧ v.b + m.q + cap * m.s = m.z) := by
  cases h with
  | slK b o n cap m h hn => exact ⟨m, o + m.q, cap, h, rfl, rfl, hn, .inl rfl, .inl rfl⟩
  | slU b o n cap m h hn hz => exact ⟨m, o + m.q, cap, h, rfl, rfl, hn, .inl rfl, .inr ⟨rfl, hz⟩⟩
  | slE b o o' m h hz => exact ⟨m, o', 0, h, rfl, rfl, Nat.le_refl _, .inr ⟨rfl, rfl, rfl, hz⟩, .inr ⟨rfl, by rw [Nat.zero_mul]; exact hz⟩⟩
  | int k n h => exfalso; have := kc_range k; simp [vInt] at ht; omega
  | _ => simp [vF, vT, vInt, vStr, vPtr, vNilp, vSl, vNils, vMap, vNilm, vFn, vYld, vNilf, vIfc, vNili, vAgg, vTup] at ht
theorem VR.inv_nils {v : AV} {x : Value} (h : VR μ v x) (ht : v.t = 6) : x = .slice none 0 0 ∧ v = vNils := by
  cases h with
  | nils => exact ⟨rfl, rfl⟩
  | int k n h => exfalso; have := kc_range k; simp [vInt] at ht; omega
  | _ => simp [vF, vT, vInt, vStr, vPtr, vNilp, vSl, vNils, vMap, vNilm, vFn, vYld, vNilf, vIfc, vNili, vAgg, vTup] at ht
theorem VR.inv_map {v : AV} {x : Value} (h : VR μ v x) (ht : v.t = 7) : ∃ m, μ v.a = some m ∧ x = .map (some m.c) ∧ v = vMap v.a := by
  cases h with
  | map b m h => exact ⟨m, h, rfl, rfl⟩
  | int k n h => exfalso; have := kc_range k; simp [vInt] at ht; omega
  | _ => simp [vF, vT, vInt, vStr, vPtr, vNilp, vSl, vNils, vMap, vNilm, vFn, vYld, vNilf, vIfc, vNili, vAgg, vTup] at ht
theorem VR.inv_nilm {v : AV} {x : Value} (h : VR μ v x) (ht : v.t = 24) : x = .map none ∧ v = vNilm := by
  cases h with
  | nilm => exact ⟨rfl, rfl⟩
  | int k n h => exfalso; have := kc_range k; simp [vInt] at ht; omega
  | _ => simp [vF, vT, vInt, vStr, vPtr, vNilp, vSl, vNils, vMap, vNilm, vFn, vYld, vNilf, vIfc, vNili, vAgg, vTup] at ht
theorem VR.inv_fn {v : AV} {x : Value} (h : VR μ v x) (ht : v.t = 16) : ∃ xs ys, x = .func (.func v.a) ⟨xs⟩ ⟨ys⟩ ∧ VRs μ v.l xs ∧ VRs μ v.m ys ∧ v = vFn v.a v.l v.m := by
  cases h with
  | fn f l m xs ys hl hl' hm hm' => exact ⟨xs, ys, rfl, ⟨hl, hl'⟩, ⟨hm, hm'⟩, rfl⟩
  | int k n h => exfalso; have := kc_range k; simp [vInt] at ht; omega
  | _ => simp [vF, vT, vInt, vStr, vPtr, vNilp, vSl, vNils, vMap, vNilm, vFn, vYld, vNilf, vIfc, vNili, vAgg, vTup] at ht
theorem VR.inv_yld {v : AV} {x : Value} (h : VR μ v x) (ht : v.t = 17) : ∃ m, μ v.a = some m ∧ x = .func (.yield m.c) #[] #[] ∧ v = vYld v.a := by
  cases h with
  | yld b m h => exact ⟨m, h, rfl, rfl⟩
  | int k n h => exfalso; have := kc_range k; simp [vInt] at ht; omega
  | _ => simp [vF, vT, vInt, vStr, vPtr, vNilp, vSl, vNils, vMap, vNilm, vFn, vYld, vNilf, vIfc, vNili, vAgg, vTup] at ht
theorem VR.inv_nilf {v : AV} {x : Value} (h : VR μ v x) (ht : v.t = 18) : x = .nilFunc ∧ v = vNilf := by
  cases h with
  | nilf => exact ⟨rfl, rfl⟩
  | int k n h => exfalso; have := kc_range k; simp [vInt] at ht; omega
  | _ => simp [vF, vT, vInt, vStr, vPtr, vNilp, vSl, vNils, vMap, vNilm, vFn, vYld, vNilf, vIfc, vNili, vAgg, vTup] at ht
theorem VR.inv_ifc {v : AV} {x : Value} (h : VR μ v x) (ht : v.t = 19) : ∃ u y, x = .iface v.a y ∧ v.l = [u] ∧ VR μ u y ∧ v = vIfc v.a u := by
  cases h with
  | ifc t u y h => exact ⟨u, y, rfl, rfl, h, rfl⟩
  | int k n h => exfalso; have := kc_range k; simp [vInt] at ht; omega
  | _ => simp [vF, vT, vInt, vStr, vPtr, vNilp, vSl, vNils, vMap, vNilm, vFn, vYld, vNilf, vIfc, vNili, vAgg, vTup] at ht
theorem VR.inv_nili {v : AV} {x : Value} (h : VR μ v x) (ht : v.t = 20) : x = .nilIface ∧ v = vNili := by
  cases h with
  | nili => exact ⟨rfl, rfl⟩
  | int k n h => exfalso; have := kc_range k; simp [vInt] at ht; omega
  | _ => simp [vF, vT, vInt, vStr, vPtr, vNilp, vSl, vNils, vMap, vNilm, vFn, vYld, vNilf, vIfc, vNili, vAgg, vTup] at ht
theorem VR.inv_agg {v : AV} {x : Value} (h : VR μ v x) (ht : v.t = 21) : ∃ xs, x = .agg ⟨xs⟩ ∧ VRs μ v.l xs ∧ (∀ y ∈ xs, y.oneCell' = true) ∧ v.a = v.l.length ∧ v = vAgg v.a v.l := by
  cases h with
  | agg cs xs hl hl' h1 => exact ⟨xs, rfl, ⟨hl, hl'⟩, h1, rfl, rfl⟩
  | int k n h => exfalso; have := kc_range k; simp [vInt] at ht; omega
  | _ => simp [vF, vT, vInt, vStr, vPtr, vNilp, vSl, vNils, vMap, vNilm, vFn, vYld, vNilf, vIfc, vNili, vAgg, vTup] at ht
theorem VR.inv_tup {v : AV} {x : Value} (h : VR μ v x) (ht : v.t = 22) : ∃ xs, x = .tuple ⟨xs⟩ ∧ VRs μ v.l xs ∧ v = vTup v.l := by
  cases h with
  | tup cs xs hl hl' => exact ⟨xs, rfl, ⟨hl, hl'⟩, rfl⟩
  | int k n h => exfalso; have := kc_range k; simp [vInt] at ht; omega
  | _ => simp [vF, vT, vInt, vStr, vPtr, vNilp, vSl, vNils, vMap, vNilm, vFn, vYld, vNilf, vIfc, vNili, vAgg, vTup] at ht
theorem VR.one {v : AV} {x : Value} (h : VR μ v x) (h1 : v.t ≠ 21) (h2 : v.t ≠ 22) : x.oneCell' = true := by
  cases h with
  | agg => simp [vAgg] at h1
  | tup => simp [vTup] at h2
  | _ => rfl
theorem VR.of_agg {cs : List AV} {xs : List Value} (h : VRs μ cs xs) (h1 : ∀ x ∈ xs, x.oneCell' = true) : VR μ (vAgg cs.length cs) (.agg ⟨xs⟩) := .agg cs xs h.1 h.2 h1
theorem VR.of_agg' {n : Nat} {cs : List AV} {xs : List Value} (h : VRs μ cs xs) (h1 : ∀ x ∈ xs, x.oneCell' = true) (hn : cs.length = n) : VR μ (vAgg n cs) (.agg ⟨xs⟩) := hn ▸ .of_agg h h1
theorem VR.of_tup {cs : List AV} {xs : List Value} (h : VRs μ cs xs) : VR μ (vTup cs) (.tuple ⟨xs⟩) := .tup cs xs h.1 h.2
theorem VR.of_fn {f : Nat} {l m : List AV} {xs ys : List Value} (h : VRs μ l xs) (h' : VRs μ m ys) : VR μ (vFn f l m) (.func (.func f) ⟨xs⟩ ⟨ys⟩) := .fn f l m xs ys h.1 h.2 h'.1 h'.2
theorem VR.of_bool (b : Bool) : VR μ (vB b) (.bool b) := by cases b; exact .f; exact .t
theorem VR.of_bool' (b : Bool) : VR μ (cV b vT vF) (.bool b) := .of_bool b
theorem VR.of_bool'' (b : Bool) : VR μ (cV b vF vT) (.bool !b) := by cases b; exact .t; exact .f
theorem VR.of_nat (k : IntKind) (n : Nat) : VR μ (vNat (kc k) n) (.int k n) := by
  have h := VR.int (μ := μ) k (n : Int) (by omega)
  have e : biasI (n : Int) = n + 9223372036854775808 := by unfold biasI; omega
  rw [e] at h; exact h
theorem VR.undef : VR μ undefA undef := .of_tup .nil

/-! ## Constants -/
mutual
theorem ofV_rel : ∀ v : Value, Ok (ofV v) → VR μ (ofV v) v
  | .bool b, _ => .of_bool b
  | .int k n, h => by
    simp only [ofV, ok_cV, decide_eq_true_eq] at h ⊢
    rw [show decide (-9223372036854775808 ≤ n) = true by simpa using h.1]
    exact .int k n h.1
  | .string s, _ => .str s
  | .pointer none, _ => .nilp
  | .slice none 0 0, _ => .nils
  | .map none, _ => .nilm
  | .nilFunc, _ => .nilf
  | .nilIface, _ => .nili
  | .iface t v, h => by
    simp only [ofV, ok_cV, ble_t] at h ⊢
    rw [show Nat.ble (ofV v).t 24 = true by simpa using h.1]
    exact .ifc t _ _ (ofV_rel v h.1)
  | .agg ⟨cs⟩, h => by
    simp only [ofV, ok_cV] at h ⊢
    rw [h.1]
    have h1 := h.1
    simp only [List.all_eq_true, bA_true, ble_t, Bool.not_eq_true', Bool.not_eq_eq_eq_not, Bool.not_true] at h1
    have hr := ofVs_rel cs fun v hv => (h1 v hv).1
    refine .of_agg hr fun x hx => ?_
    obtain ⟨i, hi, rfl⟩ := List.getElem_of_mem hx
    have hi' : i < (ofVs cs).length := hr.1 ▸ hi
    obtain ⟨x, hx', hv⟩ := hr.get i hi'
    have hx2 : cs[i] = x := by simpa [hi] using hx'
    obtain ⟨_, a1, a2⟩ := h1 _ (List.getElem_mem hi')
    rw [hx2]
    refine hv.one (fun e => ?_) (fun e => ?_)
    · rw [e] at a1; simp at a1
    · rw [e] at a2; simp at a2
  | .tuple ⟨vs⟩, h => by
    simp only [ofV, ok_cV] at h ⊢
    rw [h.1]
    exact .of_tup (ofVs_rel vs (by simpa [Ok] using h.1))
  | .pointer (some _), h => by simp [ofV] at h
  | .slice (some _) _ _, h => by simp [ofV] at h
  | .slice none (_ + 1) _, h => by simp [ofV] at h
  | .slice none 0 (_ + 1), h => by simp [ofV] at h
  | .map (some _), h => by simp [ofV] at h
  | .float _ _, h => by simp [ofV] at h
  | .complex _ _ _, h => by simp [ofV] at h
  | .chan _, h => by simp [ofV] at h
  | .func _ _ _, h => by simp [ofV] at h
theorem ofVs_rel : ∀ vs : List Value, (∀ v ∈ ofVs vs, Ok v) → VRs μ (ofVs vs) vs
  | [], _ => .nil
  | v :: vs, h => .cons (ofV_rel v (h _ (by simp [ofVs]))) (ofVs_rel vs fun u hu => h u (by simp [ofVs, hu]))
end
end
end Go.Ev

/-! Proofs, part 3: blocks, the heap, how it grows. -/
namespace Go.Ev
set_option linter.unusedVariables false
set_option linter.unusedSimpArgs false

/-! ## Worlds -/
def _root_.Go.World.setB (w : World) (c : Nat) (o : Obj) : World := { w with heap := w.heap.setIfInBounds c o }
@[simp] theorem setB_size (w : World) (c : Nat) (o : Obj) : (w.setB c o).heap.size = w.heap.size := by simp [World.setB]
theorem setB_get (w : World) (c d : Nat) (o : Obj) (h : c < w.heap.size) : (w.setB c o).heap[d]? = if d = c then some o else w.heap[d]? := by
  simp only [World.setB, Array.getElem?_setIfInBounds]
  by_cases hd : d = c
  · subst hd; simp [h]
  · simp [hd, Ne.symm hd]
theorem alloc_get (w : World) (o : Obj) (d : Nat) : (w.alloc o).heap[d]? = if d = w.heap.size then some o else w.heap[d]? := by
  simp only [World.alloc, Array.getElem?_push]
theorem get_lt {w : World} {c : Nat} {o : Obj} (h : w.heap[c]? = some o) : c < w.heap.size := (Array.getElem?_eq_some_iff.1 h).1
/-- the same but for the heap and the count of draws -/
structure Like (w w' : World) : Prop where
  tape : w'.tape = w.tape
  os : w'.os = w.os
  output : w'.output = w.output
theorem Like.refl (w : World) : Like w w := ⟨rfl, rfl, rfl⟩
theorem Like.trans {w w' w'' : World} (h : Like w w') (h' : Like w' w'') : Like w w'' := ⟨h'.1.trans h.1, h'.2.trans h.2, h'.3.trans h.3⟩

/-! ## Blocks -/
def jmpC : Jmp → Code
  | .exit id => .exit id
  | .goto l => .goto l
  | .ret => .ret
def stC : Nat → LoopState
  | 0 => .ready
  | 1 => .busy
  | 2 => .done
  | _ => .exhausted
/-- entry by entry -/
inductive ERs (μ : Mu) : List Ent → List MapEntry → Prop
  | nil : ERs μ [] []
  | cons {e : Ent} {y : MapEntry} {es : List Ent} {ys : List MapEntry} (hk : VR μ e.k y.key) (hv : VR μ e.v y.val) (hn : e.n = y.born) (h : ERs μ es ys) : ERs μ (e :: es) (y :: ys)
theorem ERs.mono {μ μ' : Mu} {es : List Ent} {ys : List MapEntry} (h : ERs μ es ys) (hm : μ.le μ') : ERs μ' es ys := by
  induction h with
  | nil => exact .nil
  | cons hk hv hn _ ih => exact .cons (hk.mono hm) (hv.mono hm) hn ih
/-- what is rare -/
inductive XR (μ : Mu) : AX → Obj → Prop
  | map (es : List Ent) (ys : Array MapEntry) (clk : Nat) (h : ERs μ es ys.toList) : XR μ (.map es clk) (.map ys clk)
  | mit0 (since : Nat) (seen : List Nat) (last : Nat) : XR μ (.mit none since seen last) (.mapIter none since ⟨seen.reverse⟩ last)
  | mit (b : Nat) (m : MB) (since : Nat) (seen : List Nat) (last : Nat) (h : μ b = some m) : XR μ (.mit (some b) since seen last) (.mapIter (some m.c) since ⟨seen.reverse⟩ last)
  | sit (s : ByteArray) (pos : Nat) : XR μ (.sit s.data.toList.length (packB s.data.toList) pos) (.stringIter s pos)
  | loop (st : Nat) (pend : Option Jmp) (d : Nat) (tm : QT d) (ps : List Nat) (asg body : Code) (fn fn' db nt : Nat) (m : MB) (tmps : Array Value)
      (hst : st ≤ 3) (hdb : μ db = some m) (hd : nt + 2 ≤ 8 ^ d) (hsz : tmps.size = nt) (htm : ∀ t, t < nt → Ok (qget d t tm) → VR μ (qget d t tm) (tmps.getD t undef)) :
      XR μ (.loop st pend d tm ps asg body fn db nt)
        (.loop { state := stC st, pending := pend.map jmpC, fn := fn', tmps := tmps, params := ⟨ps⟩, assign := asg, body := body, defers := m.c })
  | dfr (o : Bool) : XR μ (.dfr o) (.deferred (if o then some [] else none))
theorem XR.mono {μ μ' : Mu} {x : AX} {o : Obj} (h : XR μ x o) (hm : μ.le μ') : XR μ' x o := by
  cases h with
  | map es ys clk h => exact .map es ys clk (h.mono hm)
  | mit0 => exact .mit0 _ _ _
  | mit b m since seen last h => exact .mit b m since seen last (hm _ _ h)
  | sit => exact .sit _ _
  | loop st pend d tm ps asg body fn fn' db nt m tmps hst hdb hd hsz htm => exact .loop st pend d tm ps asg body fn fn' db nt m tmps hst (hm _ _ hdb) hd hsz fun t ht ho => (htm t ht ho).mono hm
  | dfr => exact .dfr _

/-- cells that may be written, one value each -/
def CellsOk (c : Array Value) (fr : Nat × Nat) : Prop := (∀ p, p < c.size → ¬ (fr.1 ≤ p ∧ p < fr.2)) ∧ ∀ x ∈ c.toList, x.oneCell' = true
/-- a row of n cells -/
structure RowR (μ : Mu) (n : Nat) (l : List AV) (m : MB) (o : Obj) : Prop where
  ex : ∃ c e, o = .cells c e (0, 0) ∧ m.q = 0 ∧ m.z = c.size ∧ VRs μ l c.toList ∧ CellsOk c (0, 0)
  len : n = l.length
/-- an array: n elements of s cells -/
structure ArrR (μ : Mu) (n s : Nat) (l : List AV) (t : HT (List AV)) (m : MB) (o : Obj) : Prop where
  ex : ∃ c e fr, o = .cells c e fr ∧ s = m.s ∧ 0 < s ∧ m.z = c.size ∧ m.q + n * s ≤ c.size ∧ CellsOk c fr ∧ ∀ i, i < n → VRs μ (htGet l HD t i) ((c.toList.drop (m.q + i * s)).take s)
  lt : n < 1099511627776
inductive BR (μ : Mu) (ab : AB) (m : MB) (o : Obj) : Prop
  | row (h : ab.t = 1) (hr : RowR μ ab.n ab.l m o)
  | arr (h : ab.t = 2) (ha : ArrR μ ab.n ab.s ab.l ab.e m o)
  | x (h : ab.t = 3) (hq : m.q = 0) (hx : XR μ ab.x o)
theorem RowR.mono {μ μ' : Mu} {n : Nat} {l : List AV} {m : MB} {o : Obj} (h : RowR μ n l m o) (hm : μ.le μ') : RowR μ' n l m o :=
  ⟨let ⟨c, e, a1, a2, a3, a4, a5⟩ := h.1; ⟨c, e, a1, a2, a3, a4.mono hm, a5⟩, h.2⟩
theorem ArrR.mono {μ μ' : Mu} {n s : Nat} {l : List AV} {t : HT (List AV)} {m : MB} {o : Obj} (h : ArrR μ n s l t m o) (hm : μ.le μ') : ArrR μ' n s l t m o :=
  ⟨let ⟨c, e, fr, a1, a2, a3, a4, a5, a6, a7⟩ := h.1; ⟨c, e, fr, a1, a2, a3, a4, a5, a6, fun i hi => (a7 i hi).mono hm⟩, h.2⟩
theorem BR.mono {μ μ' : Mu} {ab : AB} {m : MB} {o : Obj} (h : BR μ ab m o) (hm : μ.le μ') : BR μ' ab m o := by
  cases h with
  | row h hr => exact .row h (hr.mono hm)
  | arr h ha => exact .arr h (ha.mono hm)
  | x h hq hx => exact .x h hq (hx.mono hm)
theorem BR.live {μ : Mu} {ab : AB} {m : MB} {o : Obj} (h : BR μ ab m o) : ab.t ≠ 0 := by cases h <;> omega

/-! ## The heap -/
structure HR (μ : Mu) (H : Heap) (w : World) : Prop where
  dom : ∀ b m, μ b = some m → b < H.nx ∧ m.c < w.heap.size
  blk : ∀ b m, μ b = some m → (hget H b).t ≠ 0 → ∃ o, w.heap[m.c]? = some o ∧ BR μ (hget H b) m o
  inj : ∀ b b' m m', μ b = some m → μ b' = some m' → (hget H b).t ≠ 0 → (hget H b').t ≠ 0 → m.c = m'.c → b = b'
  nx : H.nx ≤ 65535
  fresh : ∀ b, H.nx ≤ b → b < 65536 → (hget H b).t = 0
/-- how the heap and the world go on -/
structure Ext (ro : Nat) (μ : Mu) (H : Heap) (w : World) (μ' : Mu) (H' : Heap) (w' : World) : Prop where
  mu : μ.le μ'
  nw : ∀ b m, μ' b = some m → μ b = none → H.nx ≤ b ∧ (w.heap.size ≤ m.c ∨ ∃ b0 m0, μ b0 = some m0 ∧ m0.c = m.c)
  nx : H.nx ≤ H'.nx
  ab : ∀ b, b < H.nx → μ b = none → hget H' b = hget H b
  sz : w.heap.size ≤ w'.heap.size
  cb : ∀ c, c < w.heap.size → (∀ b m, μ b = some m → m.c ≠ c) → w'.heap[c]? = w.heap[c]?
  ro : ∀ b m, b < ro → μ b = some m → (hget H b).t ≠ 0 → hget H' b = hget H b ∧ w'.heap[m.c]? = w.heap[m.c]?
  like : Like w w'
section
variable {ro : Nat} {μ μ' μ'' : Mu} {H H' H'' : Heap} {w w' w'' : World}
theorem Ext.refl (ro : Nat) (μ : Mu) (H : Heap) (w : World) : Ext ro μ H w μ H w :=
  ⟨Mu.le_refl μ, fun b m h h' => (by rw [h] at h'; cases h'), Nat.le_refl _, fun _ _ _ => rfl, Nat.le_refl _, fun _ _ _ => rfl, fun _ _ _ _ _ => ⟨rfl, rfl⟩, .refl _⟩
theorem Ext.trans (h : Ext ro μ H w μ' H' w') (h' : Ext ro μ' H' w' μ'' H'' w'') : Ext ro μ H w μ'' H'' w'' := by
  refine ⟨Mu.le_trans h.mu h'.mu, fun b m hb hn => ?_, Nat.le_trans h.nx h'.nx, fun b hb hn => ?_, Nat.le_trans h.sz h'.sz, fun c hc hn => ?_, fun b m hb hm hl => ?_, h.like.trans h'.like⟩
  · cases hb' : μ' b with
    | some m' =>
      obtain rfl : m' = m := by have := h'.mu _ _ hb'; rw [hb] at this; exact (Option.some.inj this).symm
      exact h.nw b m' hb' hn
    | none =>
      obtain ⟨h1, h2⟩ := h'.nw b m hb hb'
      refine ⟨Nat.le_trans h.nx h1, ?_⟩
      rcases h2 with h2 | ⟨b0, m0, h2, h3⟩
      · exact .inl (Nat.le_trans h.sz h2)
      · cases hb0 : μ b0 with
        | some m1 =>
          obtain rfl : m1 = m0 := by have := h.mu _ _ hb0; rw [h2] at this; exact (Option.some.inj this).symm
          exact .inr ⟨b0, m1, hb0, h3⟩
        | none =>
          rcases (h.nw b0 m0 h2 hb0).2 with h4 | ⟨b1, m1, h4, h5⟩
          · exact .inl (h3 ▸ h4)
          · exact .inr ⟨b1, m1, h4, h5.trans h3⟩
  · have e1 := h.ab b hb hn
    have hn' : μ' b = none := by
      cases hb' : μ' b with
      | none => rfl
      | some m => have := (h.nw b m hb' hn).1; omega
    rw [h'.ab b (Nat.lt_of_lt_of_le hb h.nx) hn', e1]
  · have e1 := h.cb c hc hn
    rw [h'.cb c (Nat.lt_of_lt_of_le hc h.sz) ?_, e1]
    intro b m hb e
    cases hb' : μ b with
    | some m' =>
      obtain rfl : m' = m := by have := h.mu _ _ hb'; rw [hb] at this; exact (Option.some.inj this).symm
      exact hn b m' hb' e
    | none =>
      rcases (h.nw b m hb hb').2 with h4 | ⟨b1, m1, h4, h5⟩
      · omega
      · exact hn b1 m1 h4 (h5.trans e)
  · obtain ⟨e1, e2⟩ := h.ro b m hb hm hl
    obtain ⟨e3, e4⟩ := h'.ro b m hb (h.mu _ _ hm) (by rw [e1]; exact hl)
    exact ⟨e3.trans e1, e4.trans e2⟩
/-- a block that nothing stands for stays so -/
theorem Ext.free (h : Ext ro μ H w μ' H' w') {c : Nat} (hc : c < w.heap.size) (hn : ∀ b m, μ b = some m → m.c ≠ c) : ∀ b m, μ' b = some m → m.c ≠ c := by
  intro b m hb e
  cases hb' : μ b with
  | some m' =>
    obtain rfl : m' = m := by have := h.mu _ _ hb'; rw [hb] at this; exact (Option.some.inj this).symm
    exact hn b m' hb' e
  | none =>
    rcases (h.nw b m hb hb').2 with h4 | ⟨b1, m1, h4, h5⟩
    · omega
    · exact hn b1 m1 h4 (h5.trans e)

/-! ### its turns -/
/-- block b stands at m -/
def Mu.put (μ : Mu) (b : Nat) (m : MB) : Mu := fun b' => if b' = b then some m else μ b'
theorem Mu.put_le {b : Nat} {m : MB} (h : μ b = none) : μ.le (μ.put b m) := by
  intro b' m' hb'
  simp only [Mu.put]
  by_cases e : b' = b
  · subst e; rw [h] at hb'; cases hb'
  · simp [e, hb']
theorem HR.none (h : HR μ H w) : μ H.nx = none := by
  cases hb : μ H.nx with
  | none => rfl
  | some m => have := (h.dom _ _ hb).1; omega
theorem HR.lt (h : HR μ H w) {b : Nat} {m : MB} (hb : μ b = some m) : b < 65536 := by have := (h.dom _ _ hb).1; have := h.nx; omega
/-- a new block -/
theorem HR.alloc (h : HR μ H w) (hx : H.nx ≤ 65534) {ab : AB} {m : MB} {o : Obj} (hc : m.c = w.heap.size) (hb : BR (μ.put H.nx m) ab m o) :
    HR (μ.put H.nx m) (hnew H ab) (w.alloc o) ∧ Ext ro μ H w (μ.put H.nx m) (hnew H ab) (w.alloc o) := by
  have hn := h.none
  have hle := Mu.put_le (m := m) hn
  have old : ∀ b m', (μ.put H.nx m) b = some m' → b ≠ H.nx → μ b = some m' := fun b m' hb' e => by simpa [Mu.put, e] using hb'
  have new : ∀ m', (μ.put H.nx m) H.nx = some m' → m' = m := fun m' hb' => by simpa [Mu.put] using hb'.symm
  have g : ∀ b, b < 65536 → hget (hnew H ab) b = if b = H.nx then ab else hget H b := fun b hb' => hget_hnew H b ab (by omega) hb'
  have dom' : ∀ b m', (μ.put H.nx m) b = some m' → b < H.nx + 1 ∧ m'.c < w.heap.size + 1 := fun b m' hb' => by
    by_cases e : b = H.nx
    · subst e; rw [new _ hb']; omega
    · have := h.dom b m' (old _ _ hb' e); omega
  refine ⟨⟨fun b m' hb' => by simpa using dom' b m' hb', fun b m' hb' hl => ?_, fun b b' m1 m2 h1 h2 l1 l2 e => ?_, by simp; omega, fun b h1 h2 => ?_⟩,
    ⟨hle, fun b m' h1 h2 => ?_, by simp, fun b h1 h2 => ?_, by simp, fun c h1 h2 => ?_, fun b m' h1 h2 h3 => ?_, ⟨rfl, rfl, rfl⟩⟩⟩
  · have hlt := (dom' b m' hb').1
    rw [g b (by omega)] at hl ⊢
    by_cases e : b = H.nx
    · subst e
      obtain rfl := new _ hb'
      refine ⟨o, ?_, by simpa using hb⟩
      rw [alloc_get, hc]; simp
    · simp only [e, if_false] at hl ⊢
      obtain ⟨o', h1, h2⟩ := h.blk b m' (old _ _ hb' e) hl
      refine ⟨o', ?_, h2.mono hle⟩
      rw [alloc_get]
      have := get_lt h1
      simp [Nat.ne_of_lt this, h1]
  · have a1 := (dom' b m1 h1).1
    have a2 := (dom' b' m2 h2).1
    rw [g b (by omega)] at l1
    rw [g b' (by omega)] at l2
    by_cases e1 : b = H.nx
    · by_cases e2 : b' = H.nx
      · omega
      · subst e1
        rw [new _ h1] at e
        have := (h.dom _ _ (old _ _ h2 e2)).2
        omega
    · by_cases e2 : b' = H.nx
      · subst e2
        rw [new _ h2] at e
        have := (h.dom _ _ (old _ _ h1 e1)).2
        omega
      · simp only [e1, e2, if_false] at l1 l2
        exact h.inj b b' m1 m2 (old _ _ h1 e1) (old _ _ h2 e2) l1 l2 e
  · simp only [hnew_nx] at h1
    rw [g b h2, if_neg (by omega)]
    exact h.fresh b (by omega) h2
  · by_cases e : b = H.nx
    · subst e; obtain rfl := new _ h1; exact ⟨Nat.le_refl _, .inl (by omega)⟩
    · rw [old _ _ h1 e] at h2; cases h2
  · rw [g b (by have := h.nx; omega), if_neg (by omega)]
  · rw [alloc_get, if_neg (by omega)]
  · have := h.dom _ _ h2
    rw [g b (h.lt h2), if_neg (by omega), alloc_get, if_neg (by omega)]
    exact ⟨rfl, rfl⟩
/-- a block written -/
theorem HR.set (h : HR μ H w) {b : Nat} {m : MB} (hb : μ b = some m) (hl : (hget H b).t ≠ 0) (hro : ro ≤ b) {ab : AB} {o : Obj} (hbr : BR μ ab m o) :
    HR μ (hset H b ab) (w.setB m.c o) ∧ Ext ro μ H w μ (hset H b ab) (w.setB m.c o) := by
  have hb6 := h.lt hb
  have hc := (h.dom b m hb).2
  have g : ∀ b', b' < 65536 → hget (hset H b ab) b' = if b' = b then ab else hget H b' := fun b' hb' => hget_hset H b b' ab hb6 hb'
  refine ⟨⟨fun b' m' h1 => by simpa using h.dom b' m' h1, fun b' m' h1 h2 => ?_, fun b1 b2 m1 m2 h1 h2 l1 l2 e => ?_, h.nx, fun b' h1 h2 => ?_⟩,
    ⟨Mu.le_refl μ, fun b' m' h1 h2 => (by rw [h1] at h2; cases h2), Nat.le_refl _, fun b' h1 h2 => ?_, by simp, fun c h1 h2 => ?_, fun b' m' h1 h2 h3 => ?_, ⟨rfl, rfl, rfl⟩⟩⟩
  · rw [g b' (h.lt h1)] at h2 ⊢
    rw [setB_get _ _ _ _ hc]
    by_cases e : b' = b
    · subst e
      obtain rfl : m' = m := by rw [hb] at h1; exact (Option.some.inj h1).symm
      exact ⟨o, by simp, by simpa using hbr⟩
    · simp only [e, if_false] at h2 ⊢
      obtain ⟨o', h3, h4⟩ := h.blk b' m' h1 h2
      by_cases ec : m'.c = m.c
      · exact absurd (h.inj b' b m' m h1 hb h2 hl ec) e
      · exact ⟨o', by simp [ec, h3], h4⟩
  · have k : ∀ b' m', μ b' = some m' → (hget (hset H b ab) b').t ≠ 0 → (hget H b').t ≠ 0 := fun b' m' h1 h2 => by
      rw [g b' (h.lt h1)] at h2
      by_cases e : b' = b
      · subst e; exact hl
      · simpa [e] using h2
    exact h.inj b1 b2 m1 m2 h1 h2 (k _ _ h1 l1) (k _ _ h2 l2) e
  · rw [g b' h2]
    have := (h.dom b m hb).1
    simp only [hset_nx] at h1
    rw [if_neg (by omega)]
    exact h.fresh b' h1 h2
  · rw [g b' (by have := h.nx; omega)]
    split
    · rename_i e; subst e; rw [hb] at h2; cases h2
    · rfl
  · rw [setB_get _ _ _ _ hc, if_neg (fun e => h2 b m hb e.symm)]
  · rw [g b' (h.lt h2), if_neg (by omega), setB_get _ _ _ _ hc]
    split
    · rename_i ec
      exact absurd (h.inj b' b m' m h2 hb h3 hl ec) (by omega)
    · exact ⟨rfl, rfl⟩
/-- a block is given up: its successor, the next one, may lie in the same place -/
theorem HR.kill (h : HR μ H w) {b : Nat} {m : MB} (hb : μ b = some m) (hl : (hget H b).t ≠ 0) (hro : ro ≤ b) :
    HR μ (hset H b bDead) w ∧ Ext ro μ H w μ (hset H b bDead) w := by
  have hb6 := h.lt hb
  have g : ∀ b', b' < 65536 → hget (hset H b bDead) b' = if b' = b then bDead else hget H b' := fun b' hb' => hget_hset H b b' bDead hb6 hb'
  have k : ∀ b' m', μ b' = some m' → (hget (hset H b bDead) b').t ≠ 0 → b' ≠ b ∧ (hget H b').t ≠ 0 ∧ hget (hset H b bDead) b' = hget H b' := fun b' m' h1 h2 => by
    rw [g b' (h.lt h1)] at h2 ⊢
    by_cases e : b' = b
    · subst e; simp [bDead] at h2
    · simp only [e, if_false] at h2 ⊢; exact ⟨fun e' => by simp [e'] at e, h2, trivial⟩
  refine ⟨⟨fun b' m' h1 => h.dom b' m' h1, fun b' m' h1 h2 => ?_, fun b1 b2 m1 m2 h1 h2 l1 l2 e => ?_, h.nx, fun b' h1 h2 => ?_⟩,
    ⟨Mu.le_refl μ, fun b' m' h1 h2 => (by rw [h1] at h2; cases h2), Nat.le_refl _, fun b' h1 h2 => ?_, Nat.le_refl _, fun c h1 h2 => rfl, fun b' m' h1 h2 h3 => ?_, .refl _⟩⟩
  · obtain ⟨_, k2, k3⟩ := k b' m' h1 h2
    rw [k3]; exact h.blk b' m' h1 k2
  · exact h.inj b1 b2 m1 m2 h1 h2 (k _ _ h1 l1).2.1 (k _ _ h2 l2).2.1 e
  · rw [g b' h2]; split
    · rfl
    · exact h.fresh b' h1 h2
  · rw [g b' (by have := h.nx; omega)]
    split
    · rename_i e; subst e; rw [hb] at h2; cases h2
    · rfl
  · rw [g b' (h.lt h2), if_neg (by omega)]; exact ⟨rfl, rfl⟩
/-- .. a new abstract block in the place of one that is given up -/
theorem HR.again (h : HR μ H w) (hx : H.nx ≤ 65534) (hro : ro ≤ H.nx) {b : Nat} {m0 : MB} (hb : μ b = some m0) (hd : (hget H b).t = 0)
    (hu : ∀ b' m', μ b' = some m' → (hget H b').t ≠ 0 → m'.c ≠ m0.c) (hur : ∀ b' m', μ b' = some m' → b' < ro → (hget H b').t ≠ 0 → m'.c ≠ m0.c)
    {ab : AB} {m : MB} {o : Obj} (hc : m.c = m0.c) (hbr : BR (μ.put H.nx m) ab m o) :
    HR (μ.put H.nx m) (hnew H ab) (w.setB m.c o) ∧ Ext ro μ H w (μ.put H.nx m) (hnew H ab) (w.setB m.c o) := by
  have hn := h.none
  have hle := Mu.put_le (m := m) hn
  have hcl : m.c < w.heap.size := hc ▸ (h.dom b m0 hb).2
  have old : ∀ b m', (μ.put H.nx m) b = some m' → b ≠ H.nx → μ b = some m' := fun b m' hb' e => by simpa [Mu.put, e] using hb'
  have new : ∀ m', (μ.put H.nx m) H.nx = some m' → m' = m := fun m' hb' => by simpa [Mu.put] using hb'.symm
  have g : ∀ b, b < 65536 → hget (hnew H ab) b = if b = H.nx then ab else hget H b := fun b hb' => hget_hnew H b ab (by omega) hb'
  have dom' : ∀ b m', (μ.put H.nx m) b = some m' → b < H.nx + 1 ∧ m'.c < w.heap.size := fun b m' hb' => by
    by_cases e : b = H.nx
    · subst e; rw [new _ hb']; omega
    · have := h.dom b m' (old _ _ hb' e); omega
  refine ⟨⟨fun b m' hb' => by simpa using dom' b m' hb', fun b m' hb' hl => ?_, fun b b' m1 m2 h1 h2 l1 l2 e => ?_, by simp; omega, fun b h1 h2 => ?_⟩,
    ⟨hle, fun b m' h1 h2 => ?_, by simp, fun b h1 h2 => ?_, by simp, fun c h1 h2 => ?_, fun b m' h1 h2 h3 => ?_, ⟨rfl, rfl, rfl⟩⟩⟩
  · have hlt := (dom' b m' hb').1
    rw [g b (by omega)] at hl ⊢
    rw [setB_get _ _ _ _ hcl]
    by_cases e : b = H.nx
    · subst e
      obtain rfl := new _ hb'
      exact ⟨o, by simp, by simpa using hbr⟩
    · simp only [e, if_false] at hl ⊢
      obtain ⟨o', h1, h2⟩ := h.blk b m' (old _ _ hb' e) hl
      have := hu b m' (old _ _ hb' e) hl
      exact ⟨o', by rw [if_neg (by omega), h1], h2.mono hle⟩
  · have a1 := (dom' b m1 h1).1
    have a2 := (dom' b' m2 h2).1
    rw [g b (by omega)] at l1
    rw [g b' (by omega)] at l2
    by_cases e1 : b = H.nx
    · by_cases e2 : b' = H.nx
      · omega
      · subst e1
        rw [new _ h1] at e
        simp only [e2, if_false] at l2
        exact absurd (by omega) (hu b' m2 (old _ _ h2 e2) l2)
    · by_cases e2 : b' = H.nx
      · subst e2
        rw [new _ h2] at e
        simp only [e1, if_false] at l1
        exact absurd (by omega) (hu b m1 (old _ _ h1 e1) l1)
      · simp only [e1, e2, if_false] at l1 l2
        exact h.inj b b' m1 m2 (old _ _ h1 e1) (old _ _ h2 e2) l1 l2 e
  · simp only [hnew_nx] at h1
    rw [g b h2, if_neg (by omega)]
    exact h.fresh b (by omega) h2
  · by_cases e : b = H.nx
    · subst e; obtain rfl := new _ h1; exact ⟨Nat.le_refl _, .inr ⟨_, m0, hb, hc.symm⟩⟩
    · rw [old _ _ h1 e] at h2; cases h2
  · rw [g b (by have := h.nx; omega), if_neg (by omega)]
  · rw [setB_get _ _ _ _ hcl, if_neg (fun e => h2 _ m0 hb (by omega))]
  · have := h.dom _ _ h2
    have := hur b m' h2 h1 h3
    rw [g b (h.lt h2), if_neg (by omega), setB_get _ _ _ _ hcl, if_neg (by omega)]
    exact ⟨rfl, rfl⟩
/-- a block that nothing stands for is made, or written -/
theorem HR.priv (h : HR μ H w) (o : Obj) : HR μ H (w.alloc o) ∧ Ext ro μ H w μ H (w.alloc o) := by
  have k : ∀ c, c < w.heap.size → (w.alloc o).heap[c]? = w.heap[c]? := fun c hc => by rw [alloc_get, if_neg (by omega)]
  refine ⟨⟨fun b m hb => ⟨(h.dom b m hb).1, by have := (h.dom b m hb).2; simp; omega⟩, fun b m hb hl => ?_, h.inj, h.nx, h.fresh⟩,
    ⟨Mu.le_refl μ, fun b m h1 h2 => (by rw [h1] at h2; cases h2), Nat.le_refl _, fun _ _ _ => rfl, by simp, fun c hc _ => k c hc, fun b m _ h2 _ => ⟨rfl, k _ (h.dom b m h2).2⟩, ⟨rfl, rfl, rfl⟩⟩⟩
  obtain ⟨o', h1, h2⟩ := h.blk b m hb hl
  exact ⟨o', (k _ (get_lt h1)).trans h1, h2⟩
theorem HR.privSet (h : HR μ H w) {c : Nat} (hc : c < w.heap.size) (hn : ∀ b m, μ b = some m → m.c ≠ c) (o : Obj) : HR μ H (w.setB c o) := by
  refine ⟨fun b m hb => by simpa using h.dom b m hb, fun b m hb hl => ?_, h.inj, h.nx, h.fresh⟩
  obtain ⟨o', h1, h2⟩ := h.blk b m hb hl
  exact ⟨o', by rw [setB_get _ _ _ _ hc, if_neg (hn b m hb)]; exact h1, h2⟩
theorem HR.drew (h : HR μ H w) : HR μ H w.drew := ⟨h.dom, h.blk, h.inj, h.nx, h.fresh⟩
theorem Ext.drew (ro : Nat) (μ : Mu) (H : Heap) (w : World) : Ext ro μ H w μ H w.drew :=
  ⟨Mu.le_refl μ, fun b m h h' => (by rw [h] at h'; cases h'), Nat.le_refl _, fun _ _ _ => rfl, Nat.le_refl _, fun _ _ _ => rfl, fun _ _ _ _ _ => ⟨rfl, rfl⟩, ⟨rfl, rfl, rfl⟩⟩
/-- what a live block holds -/
theorem HR.row (h : HR μ H w) {b : Nat} {m : MB} (hb : μ b = some m) (ht : (hget H b).t = 1) :
    ∃ c e, w.heap[m.c]? = some (.cells c e (0, 0)) ∧ m.q = 0 ∧ m.z = c.size ∧ VRs μ (hget H b).l c.toList ∧ CellsOk c (0, 0) ∧ (hget H b).n = (hget H b).l.length := by
  obtain ⟨o, h1, h2⟩ := h.blk b m hb (by omega)
  cases h2 with
  | row _ hr => obtain ⟨c, e, rfl, a2, a3, a4, a5⟩ := hr.ex; exact ⟨c, e, h1, a2, a3, a4, a5, hr.len⟩
  | arr h => omega
  | x h => omega
theorem HR.arr (h : HR μ H w) {b : Nat} {m : MB} (hb : μ b = some m) (ht : (hget H b).t = 2) :
    ∃ c e fr, w.heap[m.c]? = some (.cells c e fr) ∧ (hget H b).s = m.s ∧ 0 < (hget H b).s ∧ m.z = c.size ∧ m.q + (hget H b).n * (hget H b).s ≤ c.size ∧ CellsOk c fr ∧
      (∀ i, i < (hget H b).n → VRs μ (htGet (hget H b).l HD (hget H b).e i) ((c.toList.drop (m.q + i * (hget H b).s)).take (hget H b).s)) ∧ (hget H b).n < 1099511627776 := by
  obtain ⟨o, h1, h2⟩ := h.blk b m hb (by omega)
  cases h2 with
  | arr _ ha => obtain ⟨c, e, fr, rfl, a⟩ := ha.ex; exact ⟨c, e, fr, h1, a.1, a.2.1, a.2.2.1, a.2.2.2.1, a.2.2.2.2.1, a.2.2.2.2.2, ha.lt⟩
  | row h => omega
  | x h => omega
end
end Go.Ev

/-! Proofs, part 4: integers and strings. -/
namespace Go.Ev
set_option linter.unusedVariables false
set_option linter.unusedSimpArgs false
variable {μ : Mu} {P : Program} {w : World}

/-! ## Integers -/
theorem kbits_kc (k : IntKind) : kbits (kc k) = k.bits := by cases k <;> rfl
theorem wrap_i8 (n : Int) : IntKind.i8.wrap n = if 128 ≤ n % 256 then n % 256 - 256 else n % 256 := by simp [IntKind.wrap, IntKind.bits, IntKind.signed]
theorem res_i8 (u : Nat) : residue 8 u = if 128 ≤ u then u + 9223372036854775808 - 256 else u + 9223372036854775808 := by
  unfold residue
  rw [cT_eq, bA_eq]
  simp only [show ksigned 8 = true from rfl, Bool.true_and, ble_t]
  rfl
theorem wrap_i16 (n : Int) : IntKind.i16.wrap n = if 32768 ≤ n % 65536 then n % 65536 - 65536 else n % 65536 := by simp [IntKind.wrap, IntKind.bits, IntKind.signed]
theorem res_i16 (u : Nat) : residue 9 u = if 32768 ≤ u then u + 9223372036854775808 - 65536 else u + 9223372036854775808 := by
  unfold residue
  rw [cT_eq, bA_eq]
  simp only [show ksigned 9 = true from rfl, Bool.true_and, ble_t]
  rfl
theorem wrap_i32 (n : Int) : IntKind.i32.wrap n = if 2147483648 ≤ n % 4294967296 then n % 4294967296 - 4294967296 else n % 4294967296 := by simp [IntKind.wrap, IntKind.bits, IntKind.signed]
theorem res_i32 (u : Nat) : residue 10 u = if 2147483648 ≤ u then u + 9223372036854775808 - 4294967296 else u + 9223372036854775808 := by
  unfold residue
  rw [cT_eq, bA_eq]
  simp only [show ksigned 10 = true from rfl, Bool.true_and, ble_t]
  rfl
theorem wrap_i64 (n : Int) : IntKind.i64.wrap n = if 9223372036854775808 ≤ n % 18446744073709551616 then n % 18446744073709551616 - 18446744073709551616 else n % 18446744073709551616 := by simp [IntKind.wrap, IntKind.bits, IntKind.signed]
theorem res_i64 (u : Nat) : residue 11 u = if 9223372036854775808 ≤ u then u + 9223372036854775808 - 18446744073709551616 else u + 9223372036854775808 := by
  unfold residue
  rw [cT_eq, bA_eq]
  simp only [show ksigned 11 = true from rfl, Bool.true_and, ble_t]
  rfl
theorem wrap_u8 (n : Int) : IntKind.u8.wrap n = n % 256 := by simp [IntKind.wrap, IntKind.bits, IntKind.signed]
theorem res_u8 (u : Nat) : residue 12 u = u + 9223372036854775808 := rfl
theorem wrap_u16 (n : Int) : IntKind.u16.wrap n = n % 65536 := by simp [IntKind.wrap, IntKind.bits, IntKind.signed]
theorem res_u16 (u : Nat) : residue 13 u = u + 9223372036854775808 := rfl
theorem wrap_u32 (n : Int) : IntKind.u32.wrap n = n % 4294967296 := by simp [IntKind.wrap, IntKind.bits, IntKind.signed]
theorem res_u32 (u : Nat) : residue 14 u = u + 9223372036854775808 := rfl
theorem wrap_u64 (n : Int) : IntKind.u64.wrap n = n % 18446744073709551616 := by simp [IntKind.wrap, IntKind.bits, IntKind.signed]
theorem res_u64 (u : Nat) : residue 15 u = u + 9223372036854775808 := rfl
theorem residue_eq (k : IntKind) (u : Nat) (n : Int) (h : (u : Int) = n % (2 ^ k.bits : Int)) : residue (kc k) u = biasI (k.wrap n) := by
  cases k with
  | i8 =>
    have h' : (u : Int) = n % 256 := by simpa [IntKind.bits] using h
    rw [wrap_i8, show residue (kc .i8) u = _ from res_i8 u]
    unfold biasI
    split <;> split <;> omega
  | i16 =>
    have h' : (u : Int) = n % 65536 := by simpa [IntKind.bits] using h
    rw [wrap_i16, show residue (kc .i16) u = _ from res_i16 u]
    unfold biasI
    split <;> split <;> omega
  | i32 =>
    have h' : (u : Int) = n % 4294967296 := by simpa [IntKind.bits] using h
    rw [wrap_i32, show residue (kc .i32) u = _ from res_i32 u]
    unfold biasI
    split <;> split <;> omega
  | i64 =>
    have h' : (u : Int) = n % 18446744073709551616 := by simpa [IntKind.bits] using h
    rw [wrap_i64, show residue (kc .i64) u = _ from res_i64 u]
    unfold biasI
    split <;> split <;> omega
  | u8 =>
    have h' : (u : Int) = n % 256 := by simpa [IntKind.bits] using h
    rw [wrap_u8, show residue (kc .u8) u = _ from res_u8 u]
    unfold biasI
    omega
  | u16 =>
    have h' : (u : Int) = n % 65536 := by simpa [IntKind.bits] using h
    rw [wrap_u16, show residue (kc .u16) u = _ from res_u16 u]
    unfold biasI
    omega
  | u32 =>
    have h' : (u : Int) = n % 4294967296 := by simpa [IntKind.bits] using h
    rw [wrap_u32, show residue (kc .u32) u = _ from res_u32 u]
    unfold biasI
    omega
  | u64 =>
    have h' : (u : Int) = n % 18446744073709551616 := by simpa [IntKind.bits] using h
    rw [wrap_u64, show residue (kc .u64) u = _ from res_u64 u]
    unfold biasI
    omega
theorem wrap_ge (k : IntKind) (n : Int) : -9223372036854775808 ≤ k.wrap n := by
  cases k with
  | i8 => rw [wrap_i8]; split <;> omega
  | i16 => rw [wrap_i16]; split <;> omega
  | i32 => rw [wrap_i32]; split <;> omega
  | i64 => rw [wrap_i64]; split <;> omega
  | u8 => rw [wrap_u8]; omega
  | u16 => rw [wrap_u16]; omega
  | u32 => rw [wrap_u32]; omega
  | u64 => rw [wrap_u64]; omega
theorem mm_min (k : IntKind) : k.min = (match k with | .i8 => -128 | .i16 => -32768 | .i32 => -2147483648 | .i64 => -9223372036854775808 | _ => 0) := by cases k <;> simp [IntKind.min, IntKind.bits, IntKind.signed]
theorem mm_max (k : IntKind) : k.max = (match k with | .i8 => 127 | .i16 => 32767 | .i32 => 2147483647 | .i64 => 9223372036854775807 | .u8 => 255 | .u16 => 65535 | .u32 => 4294967295 | .u64 => 18446744073709551615) := by cases k <;> simp [IntKind.max, IntKind.bits, IntKind.signed]
theorem wrap_of {k : IntKind} {n : Int} (h : k.min ≤ n) (h' : n ≤ k.max) : k.wrap n = n := by
  rw [mm_min] at h
  rw [mm_max] at h'
  cases k with
  | i8 => simp only at h h'; rw [wrap_i8]; split <;> omega
  | i16 => simp only at h h'; rw [wrap_i16]; split <;> omega
  | i32 => simp only at h h'; rw [wrap_i32]; split <;> omega
  | i64 => simp only at h h'; rw [wrap_i64]; split <;> omega
  | u8 => simp only at h h'; rw [wrap_u8]; omega
  | u16 => simp only at h h'; rw [wrap_u16]; omega
  | u32 => simp only at h h'; rw [wrap_u32]; omega
  | u64 => simp only at h h'; rw [wrap_u64]; omega
theorem mod_of {k : IntKind} {n : Int} {s : Nat} (h : (s : Int) = n + 18446744073709551616) : ((s % 2 ^ k.bits : Nat) : Int) = n % (2 ^ k.bits : Int) := by
  cases k <;> simp only [IntKind.bits] <;> simp <;> omega
theorem wrapI_eq (k : IntKind) (n : Int) : wrapI (kc k) n = biasI (k.wrap n) := by
  unfold wrapI
  apply residue_eq
  rw [kbits_kc]
  have : (0 : Int) ≤ n % ((2 ^ k.bits : Nat) : Int) := Int.emod_nonneg _ (by cases k <;> decide)
  rw [Int.toNat_of_nonneg this]
  simp
theorem kLo_eq (k : IntKind) : (kLo (kc k) : Int) = k.min + 9223372036854775808 := by rw [mm_min]; cases k <;> rfl
theorem kHi_eq (k : IntKind) : (kHi (kc k) : Int) = k.max + 9223372036854775808 := by rw [mm_max]; cases k <;> rfl
theorem vr_int (k : IntKind) (n : Int) : VR μ (vInt (kc k) (biasI (k.wrap n))) (.int k (k.wrap n)) := .int k _ (wrap_ge k n)
theorem intV_eq (t r : Nat) : intV t r = vInt t r := by unfold intV; rw [show Nat.ble 0 r = true by simp]; rfl
/-- s stands for n with 2^64 -/
theorem fitV_eq {k : IntKind} {s : Nat} {n : Int} (h : (s : Int) = n + 18446744073709551616) :
    fitV (kc k) (Nat.add (kLo (kc k)) 9223372036854775808) (Nat.add (kHi (kc k)) 9223372036854775808) s = vInt (kc k) (biasI (k.wrap n)) := by
  have ad : ∀ a b, Nat.add a b = a + b := fun _ _ => rfl
  have lo := kLo_eq k
  have hi := kHi_eq k
  unfold fitV
  rw [cV_eq, bA_eq]
  split
  · rename_i hc
    simp only [Bool.and_eq_true, ble_t, ad] at hc
    rw [wrap_of (by omega) (by omega)]
    rw [Nat.sub_eq, show s - 9223372036854775808 = biasI n from by unfold biasI; omega]
  · have e : residue (kc k) (Nat.mod s (Nat.pow 2 (kbits (kc k)))) = biasI (k.wrap n) := residue_eq k _ n (by rw [kbits_kc]; exact mod_of h)
    rw [intV_eq, e]
theorem ok_int (k : IntKind) (n : Nat) : Ok (vInt (kc k) n) := Nat.le_trans (kc_range k).2 (by decide)
theorem biasI_inj {a b : Int} (ha : -9223372036854775808 ≤ a) (hb : -9223372036854775808 ≤ b) : (biasI a = biasI b) ↔ a = b := by unfold biasI; omega
theorem biasI_le {a b : Int} (ha : -9223372036854775808 ≤ a) (hb : -9223372036854775808 ≤ b) : (biasI a ≤ biasI b) ↔ a ≤ b := by unfold biasI; omega
theorem mod_bias (k : IntKind) {a : Int} (ha : -9223372036854775808 ≤ a) : ((Nat.mod (Nat.add (biasI a) 9223372036854775808) (Nat.pow 2 (kbits (kc k))) : Nat) : Int) = a % (2 ^ k.bits : Int) := by
  rw [kbits_kc]
  have := biasI_eq ha
  exact mod_of (k := k) (s := biasI a + 9223372036854775808) (n := a) (by omega)
theorem bias_sub {n : Int} (h : 0 ≤ n) : biasI n - 9223372036854775808 = n.toNat := by unfold biasI; omega
theorem bias_pos {n : Int} (h : 9223372036854775808 ≤ biasI n) : 0 ≤ n := by unfold biasI at h; omega
theorem bias_nat (z : Nat) : biasI (z : Int) = z + 9223372036854775808 := by unfold biasI; omega
theorem emod_le' (a b : Int) (h : 0 ≤ a) : a % b ≤ a := by
  have h1 := Int.mul_ediv_add_emod a b
  have h2 : 0 ≤ b * (a / b) := by
    rcases Int.le_total 0 b with hb | hb
    · exact Int.mul_nonneg hb (Int.ediv_nonneg h hb)
    · exact Int.mul_nonneg_of_nonpos_of_nonpos hb (Int.ediv_nonpos_of_nonneg_of_nonpos h hb)
  omega
section
variable {k : IntKind} {a b : Int} {t : TypeId} (ha : -9223372036854775808 ≤ a) (hb : -9223372036854775808 ≤ b)
include ha hb
theorem hAdd_eq : hAdd (kc k) (Nat.add (kLo (kc k)) 9223372036854775808) (Nat.add (kHi (kc k)) 9223372036854775808) (biasI a) (biasI b) = vInt (kc k) (biasI (k.wrap (a + b))) := by
  have ea := biasI_eq ha
  have eb := biasI_eq hb
  exact fitV_eq (n := a + b) (by rw [Nat.add_eq]; omega)
theorem hSub_eq (hok : Ok (hSub (kc k) (Nat.add (kLo (kc k)) 9223372036854775808) (Nat.add (kHi (kc k)) 9223372036854775808) (biasI a) (biasI b))) :
    hSub (kc k) (Nat.add (kLo (kc k)) 9223372036854775808) (Nat.add (kHi (kc k)) 9223372036854775808) (biasI a) (biasI b) = vInt (kc k) (biasI (k.wrap (a - b))) := by
  have ea := biasI_eq ha
  have eb := biasI_eq hb
  unfold hSub at hok ⊢
  rw [ok_cV] at hok
  rw [hok.1, cV_true]
  have h1 := hok.1
  rw [ble_t, Nat.add_eq] at h1
  exact fitV_eq (n := a - b) (by rw [Nat.add_eq, Nat.sub_eq]; omega)
theorem hMul_eq : hMul (kc k) (Nat.add (kLo (kc k)) 9223372036854775808) (Nat.add (kHi (kc k)) 9223372036854775808) (biasI a) (biasI b) = vInt (kc k) (biasI (k.wrap (a * b))) := by
  have ea := biasI_eq ha
  have eb := biasI_eq hb
  unfold hMul
  rw [cV_eq]
  split
  · rename_i hc
    rw [bA_true, ble_t, ble_t] at hc
    refine fitV_eq (n := a * b) ?_
    have pa := bias_pos hc.1
    have pb := bias_pos hc.2
    rw [Nat.add_eq, Nat.mul_eq, Nat.sub_eq, Nat.sub_eq, bias_sub pa, bias_sub pb, Int.natCast_add, Int.natCast_mul, Int.toNat_of_nonneg pa, Int.toNat_of_nonneg pb]
    rfl
  · rw [intV_eq, unbias_bias ha, unbias_bias hb, wrapI_eq]
theorem hQuo_eq (hok : Ok (hQuo (kc k) (biasI a) (biasI b))) : b ≠ 0 ∧ hQuo (kc k) (biasI a) (biasI b) = vInt (kc k) (biasI (k.wrap (a.tdiv b))) := by
  have eb := biasI_eq hb
  unfold hQuo at hok ⊢
  have hz : Nat.beq (biasI b) 9223372036854775808 = false := by
    cases hz : Nat.beq (biasI b) 9223372036854775808 with
    | true => rw [hz, cV_true] at hok; simp at hok
    | false => rfl
  rw [hz, cV_false, intV_eq, unbias_bias ha, unbias_bias hb, wrapI_eq]
  refine ⟨fun h => ?_, rfl⟩
  have : biasI b = 9223372036854775808 := by omega
  rw [this] at hz
  simp at hz
theorem hRem_eq (hok : Ok (hRem (kc k) (biasI a) (biasI b))) : b ≠ 0 ∧ -9223372036854775808 ≤ a.tmod b ∧ hRem (kc k) (biasI a) (biasI b) = vInt (kc k) (biasI (a.tmod b)) := by
  have ea := biasI_eq ha
  have eb := biasI_eq hb
  unfold hRem at hok ⊢
  have hz : Nat.beq (biasI b) 9223372036854775808 = false := by
    cases hz : Nat.beq (biasI b) 9223372036854775808 with
    | true => rw [hz, cV_true] at hok; simp at hok
    | false => rfl
  have hge : -9223372036854775808 ≤ a.tmod b := by
    rcases Int.le_total 0 a with h | h
    · have := Int.tmod_nonneg b h; omega
    · have h1 : a.tmod b = -((-a).tmod b) := by rw [Int.neg_tmod]; omega
      have h2 : (-a).tmod b ≤ -a := by
        rw [Int.tmod_eq_emod_of_nonneg (by omega)]
        exact emod_le' _ _ (by omega)
      omega
  refine ⟨fun h => ?_, hge, ?_⟩
  · have : biasI b = 9223372036854775808 := by omega
    rw [this] at hz
    simp at hz
  rw [hz, cV_false, cV_eq]
  split
  · rename_i hc
    rw [bA_true, ble_t, ble_t] at hc
    have e : Nat.add (Nat.mod (Nat.sub (biasI a) 9223372036854775808) (Nat.sub (biasI b) 9223372036854775808)) 9223372036854775808 = biasI (a.tmod b) := by
      have pa := bias_pos hc.1
      have pb := bias_pos hc.2
      rw [Nat.add_eq, Nat.sub_eq, Nat.sub_eq, bias_sub pa, bias_sub pb]
      have h3 : a.tmod b = ((Nat.mod a.toNat b.toNat : Nat) : Int) := by
        rw [Int.tmod_eq_emod_of_nonneg pa, show Nat.mod a.toNat b.toNat = a.toNat % b.toNat from rfl, Int.natCast_emod, Int.toNat_of_nonneg pa, Int.toNat_of_nonneg pb]
      rw [h3, bias_nat]
    rw [e, intV_eq]
  · rw [intV_eq, unbias_bias ha, unbias_bias hb]
theorem hBits_eq (o : BinOp) (r : BitVec k.bits) (h : bitsN o (2 ^ k.bits) (BitVec.ofInt k.bits a).toNat (BitVec.ofInt k.bits b).toNat = r.toNat) :
    hBits o (kc k) (biasI a) (biasI b) = vInt (kc k) (biasI (k.wrap r.toNat)) := by
  have h2 : ((2 ^ k.bits : Nat) : Int) = (2 : Int) ^ k.bits := by simp
  have tn : ∀ (z : Nat) (c : Int), (z : Int) = c % (2 ^ k.bits : Int) → z = (BitVec.ofInt k.bits c).toNat := fun z c hz => by
    rw [BitVec.toNat_ofInt, h2, ← hz]; rfl
  have e1 := tn _ a (mod_bias k ha)
  have e2 := tn _ b (mod_bias k hb)
  unfold hBits
  rw [e1, e2, kbits_kc, show Nat.pow 2 k.bits = 2 ^ k.bits from rfl, h, intV_eq]
  have hr : r.toNat < 2 ^ k.bits := r.isLt
  rw [residue_eq k r.toNat r.toNat (by rw [Int.emod_eq_of_lt (by omega) (by rw [← h2]; omega)])]
theorem hCmp_eq : Nat.beq (biasI a) (biasI b) = (a == b) ∧ Nat.ble (biasI a) (biasI b) = decide (a ≤ b) := by
  constructor
  · rw [Bool.eq_iff_iff, beq_t, biasI_inj ha hb]; simp
  · rw [Bool.eq_iff_iff, ble_t, biasI_le ha hb]; simp
end
/-- an operator on two numbers of one kind -/
theorem arith_sound {op : BinOp} {k : IntKind} {a b : Int} {t : TypeId} (ha : -9223372036854775808 ≤ a) (hb : -9223372036854775808 ≤ b)
    (hok : Ok (arithH op (kc k) (biasI a) (biasI b))) :
    ∃ x, (Go.binOp op t (.int k a) (.int k b)).run P w = .ok x w ∧ VR μ (arithH op (kc k) (biasI a) (biasI b)) x := by
  have cmp' : ∀ c d : Bool, (d = !c) → VR μ (cV c vF vT) (.bool d) := fun c d h => h ▸ .of_bool'' c
  cases op <;> simp only [arithH] at hok ⊢
  case add => exact ⟨.int k (k.wrap (a + b)), by simp [Go.binOp, Op.intArith], by rw [hAdd_eq ha hb]; exact vr_int k _⟩
  case sub => exact ⟨.int k (k.wrap (a - b)), by simp [Go.binOp, Op.intArith], by rw [hSub_eq ha hb hok]; exact vr_int k _⟩
  case mul => exact ⟨.int k (k.wrap (a * b)), by simp [Go.binOp, Op.intArith], by rw [hMul_eq ha hb]; exact vr_int k _⟩
  case quo => obtain ⟨h0, e⟩ := hQuo_eq ha hb hok; exact ⟨.int k (k.wrap (a.tdiv b)), by simp [Go.binOp, Op.intDiv, h0], by rw [e]; exact vr_int k _⟩
  case rem => obtain ⟨h0, h1, e⟩ := hRem_eq ha hb hok; exact ⟨.int k (a.tmod b), by simp [Go.binOp, Op.intDiv, h0], by rw [e]; exact .int k _ h1⟩
  case and => exact ⟨.int k (k.wrap (BitVec.ofInt k.bits a &&& BitVec.ofInt k.bits b).toNat), by simp [Go.binOp, Op.intBits], by rw [hBits_eq ha hb .and _ (by rw [BitVec.toNat_and]; rfl)]; exact vr_int k _⟩
  case or => exact ⟨.int k (k.wrap (BitVec.ofInt k.bits a ||| BitVec.ofInt k.bits b).toNat), by simp [Go.binOp, Op.intBits], by rw [hBits_eq ha hb .or _ (by rw [BitVec.toNat_or]; rfl)]; exact vr_int k _⟩
  case xor => exact ⟨.int k (k.wrap (BitVec.ofInt k.bits a ^^^ BitVec.ofInt k.bits b).toNat), by simp [Go.binOp, Op.intBits], by rw [hBits_eq ha hb .xor _ (by rw [BitVec.toNat_xor]; rfl)]; exact vr_int k _⟩
  case andNot => exact ⟨.int k (k.wrap (BitVec.ofInt k.bits a &&& ~~~ BitVec.ofInt k.bits b).toNat), by simp [Go.binOp, Op.intBits], by rw [hBits_eq ha hb .andNot (BitVec.ofInt k.bits a &&& ~~~BitVec.ofInt k.bits b) (by rw [BitVec.toNat_and, BitVec.toNat_not]; rfl)]; exact vr_int k _⟩
  case shl => simp [hNone] at hok
  case shr => simp [hNone] at hok
  case eql => exact ⟨.bool (a == b), by simp [Go.binOp, Op.intCmp], by rw [hEq, (hCmp_eq ha hb).1]; exact .of_bool _⟩
  case neq => exact ⟨.bool (a != b), by simp [Go.binOp, Op.intCmp], by rw [hNe, (hCmp_eq ha hb).1]; exact .of_bool'' _⟩
  case lss => exact ⟨.bool (a < b), by simp [Go.binOp, Op.intCmp], by rw [hLt, (hCmp_eq hb ha).2]; exact cmp' _ _ (by rw [Bool.eq_iff_iff]; simp)⟩
  case leq => exact ⟨.bool (a ≤ b), by simp [Go.binOp, Op.intCmp], by rw [hLe, (hCmp_eq ha hb).2]; exact .of_bool _⟩
  case gtr => exact ⟨.bool (a > b), by simp [Go.binOp, Op.intCmp], by rw [hGt, (hCmp_eq ha hb).2]; exact cmp' _ _ (by rw [Bool.eq_iff_iff]; simp)⟩
  case geq => exact ⟨.bool (a ≥ b), by simp [Go.binOp, Op.intCmp], by rw [hGe, (hCmp_eq hb ha).2]; exact .of_bool _⟩
end Go.Ev

/-! Proofs, part 5: shifts, signs, conversions of integers; strings. -/
namespace Go.Ev
set_option linter.unusedVariables false
set_option linter.unusedSimpArgs false
variable {μ : Mu} {P : Program} {w : World}

theorem isI_inv {v : AV} {x : Value} (h : VR μ v x) (hi : isI v = true) : ∃ k n, -9223372036854775808 ≤ n ∧ x = .int k n ∧ v = vInt (kc k) (biasI n) := by
  unfold isI at hi
  rw [bA_true, ble_t, ble_t] at hi
  exact h.inv_isI hi
theorem isN_inv {v : AV} {x : Value} (h : VR μ v x) (hi : isN v = true) : ∃ (k : IntKind) (n : Nat), x = .int k n ∧ nOf v = n := by
  unfold isN at hi
  rw [bA_true, ble_t] at hi
  obtain ⟨k, n, hn, rfl, rfl⟩ := isI_inv h hi.1
  have h1 := bias_pos hi.2
  refine ⟨k, n.toNat, by rw [Int.toNat_of_nonneg h1], ?_⟩
  show Nat.sub (biasI n) 9223372036854775808 = _
  rw [Nat.sub_eq, bias_sub h1]
theorem fdiv_ge (a : Int) (n : Nat) (ha : -9223372036854775808 ≤ a) : -9223372036854775808 ≤ a.fdiv ((2 ^ n : Nat) : Int) := by
  have hp : (0 : Int) < ((2 ^ n : Nat) : Int) := by have := Nat.two_pow_pos n; omega
  rw [Int.fdiv_eq_ediv_of_nonneg _ (by omega)]
  rcases Int.le_total 0 a with h | h
  · have := Int.ediv_nonneg h (Int.le_of_lt hp); omega
  · have h1 : a * ((2 ^ n : Nat) : Int) ≤ a := by
      have : a * ((2 ^ n : Nat) : Int) ≤ a * 1 := Int.mul_le_mul_of_nonpos_left h (by omega)
      omega
    have := Int.le_ediv_of_mul_le hp h1
    omega
theorem shift_sound {op : BinOp} {k : IntKind} {v u : AV} {x y : Value} {t : TypeId} (hop : op = .shl ∨ op = .shr) (hv : VR μ v x) (hu : VR μ u y)
    (hok : Ok (hShift op (kc k) v u)) : ∃ z, (Go.binOp op t x y).run P w = .ok z w ∧ VR μ (hShift op (kc k) v u) z := by
  unfold hShift at hok ⊢
  rw [ok_cV, bA_true, beq_t] at hok
  obtain ⟨⟨h1, h2⟩, _⟩ := hok
  obtain ⟨n, hn, rfl, rfl⟩ := hv.inv_int h1
  obtain ⟨k', m, rfl, hm⟩ := isN_inv hu h2
  rw [show bA (Nat.beq (vInt (kc k) (biasI n)).t (kc k)) (isN u) = true by rw [bA_true, beq_t]; exact ⟨rfl, h2⟩, cV_true, intV_eq, hm]
  have hneg : ¬ ((m : Int) < 0) := by omega
  rcases hop with rfl | rfl
  · refine ⟨.int k (k.wrap (n * 2 ^ min m k.bits)), by simp [Go.binOp, Op.shift, hneg], ?_⟩
    have e : shN .shl (kc k) (vInt (kc k) (biasI n)).a m = biasI (k.wrap (n * 2 ^ min m k.bits)) := by
      show wrapI (kc k) (unbias (biasI n) * ((2 ^ min m (kbits (kc k)) : Nat) : Int)) = _
      rw [unbias_bias hn, kbits_kc, wrapI_eq]
      congr 2
    rw [e]; exact vr_int k _
  · refine ⟨.int k (n.fdiv (2 ^ min m k.bits)), by simp [Go.binOp, Op.shift, hneg], ?_⟩
    have h2 : (((2 ^ min m k.bits : Nat)) : Int) = (2 : Int) ^ min m k.bits := by simp
    have e : shN .shr (kc k) (vInt (kc k) (biasI n)).a m = biasI (n.fdiv (2 ^ min m k.bits)) := by
      show biasI (Int.fdiv (unbias (biasI n)) ((2 ^ min m (kbits (kc k)) : Nat) : Int)) = _
      rw [unbias_bias hn, kbits_kc, h2]
    rw [e]
    exact .int k _ (by rw [← h2]; exact fdiv_ge n _ hn)
theorem i2_sound {op : BinOp} {k : IntKind} {v u : AV} {x y : Value} {t : TypeId} (hv : VR μ v x) (hu : VR μ u y)
    (hok : Ok (i2 (kc k) (arithH op (kc k)) v u)) : ∃ z, (Go.binOp op t x y).run P w = .ok z w ∧ VR μ (i2 (kc k) (arithH op (kc k)) v u) z := by
  unfold i2 at hok ⊢
  rw [ok_cV, bA_true, beq_t, beq_t] at hok
  obtain ⟨⟨h1, h2⟩, h3⟩ := hok
  obtain ⟨n, hn, rfl, rfl⟩ := hv.inv_int h1
  obtain ⟨m, hm, rfl, rfl⟩ := hu.inv_int h2
  rw [show bA (Nat.beq (vInt (kc k) (biasI n)).t (kc k)) (Nat.beq (vInt (kc k) (biasI m)).t (kc k)) = true by rw [bA_true, beq_t, beq_t]; exact ⟨rfl, rfl⟩, cV_true]
  exact arith_sound hn hm h3
theorem neg_sound {k : IntKind} {v : AV} {x : Value} (hv : VR μ v x)
    (hok : Ok (negH (kc k) (Nat.add (kLo (kc k)) 9223372036854775808) (Nat.add (kHi (kc k)) 9223372036854775808) v)) :
    ∃ z, (Op.unary .neg x).run P w = .ok z w ∧ VR μ (negH (kc k) (Nat.add (kLo (kc k)) 9223372036854775808) (Nat.add (kHi (kc k)) 9223372036854775808) v) z := by
  unfold negH at hok ⊢
  rw [ok_cV, beq_t] at hok
  obtain ⟨h1, h3⟩ := hok
  obtain ⟨n, hn, rfl, rfl⟩ := hv.inv_int h1
  have e0 : (9223372036854775808 : Nat) = biasI 0 := by decide
  have e1 : (vInt (kc k) (biasI n)).a = biasI n := rfl
  rw [e1] at h3 ⊢
  have h4 : Ok (hSub (kc k) (Nat.add (kLo (kc k)) 9223372036854775808) (Nat.add (kHi (kc k)) 9223372036854775808) (biasI 0) (biasI n)) := h3
  refine ⟨.int k (k.wrap (0 - n)), by simp [Op.unary, Op.intArith], ?_⟩
  rw [show Nat.beq (vInt (kc k) (biasI n)).t (kc k) = true by rw [beq_t]; rfl, cV_true]
  have := hSub_eq (k := k) (a := 0) (b := n) (by omega) hn h4
  rw [← e0] at this
  rw [this]; exact vr_int k _
theorem not_sound {v : AV} {x : Value} (hv : VR μ v x) (hok : Ok (notH v)) : ∃ z, (Op.unary .not x).run P w = .ok z w ∧ VR μ (notH v) z := by
  unfold notH at hok ⊢
  rcases ok_cV' hok with ⟨h1, _, e⟩ | ⟨_, h2, e⟩
  · rw [beq_t] at h1
    obtain rfl := hv.inv_t h1
    exact ⟨.bool false, by simp [Op.unary], by rw [e]; exact .f⟩
  · rw [ok_cV, beq_t] at h2
    obtain rfl := hv.inv_f h2.1
    refine ⟨.bool true, by simp [Op.unary], ?_⟩
    rw [e, show Nat.beq v.t 0 = true by rw [beq_t]; exact h2.1]; exact .t
theorem conv_sound {k : IntKind} {v : AV} {x : Value} (hv : VR μ v x)
    (hok : Ok (cvI (kc k) (Nat.add (kLo (kc k)) 9223372036854775808) (Nat.add (kHi (kc k)) 9223372036854775808) v)) :
    ∃ j n, x = .int j n ∧ VR μ (cvI (kc k) (Nat.add (kLo (kc k)) 9223372036854775808) (Nat.add (kHi (kc k)) 9223372036854775808) v) (.int k (k.wrap n)) := by
  unfold cvI at hok ⊢
  rw [ok_cV] at hok
  obtain ⟨j, n, hn, rfl, rfl⟩ := isI_inv hv hok.1
  refine ⟨j, n, rfl, ?_⟩
  rw [hok.1, cV_true]
  have en := biasI_eq hn
  rw [fitV_eq (n := n) (by rw [Nat.add_eq]; show ((biasI n + 9223372036854775808 : Nat) : Int) = _; omega)]
  exact vr_int k _
theorem mm2_sound {isMax : Bool} {v u : AV} {x y : Value} (hv : VR μ v x) (hu : VR μ u y) (hok : Ok (mm2 isMax v u)) :
    ∃ z, (if isMax then Builtin.max2 x y else Builtin.min2 x y).run P w = .ok z w ∧ VR μ (mm2 isMax v u) z := by
  unfold mm2 at hok ⊢
  rw [ok_cV, bA_true, beq_t] at hok
  obtain ⟨⟨h1, h2⟩, _⟩ := hok
  obtain ⟨k, n, hn, rfl, rfl⟩ := isI_inv hv h1
  obtain ⟨m, hm, rfl, rfl⟩ := hu.inv_int (k := k) h2
  rw [show bA (isI (vInt (kc k) (biasI n))) (Nat.beq (vInt (kc k) (biasI m)).t (vInt (kc k) (biasI n)).t) = true by rw [bA_true, beq_t]; exact ⟨h1, rfl⟩, cV_true]
  cases isMax with
  | true =>
    refine ⟨.int k (if m > n then m else n), by simp [Builtin.max2], ?_⟩
    show VR μ (cV (Nat.ble (biasI m) (biasI n)) _ _) _
    rw [(hCmp_eq hm hn).2, cV_eq]
    by_cases h : m ≤ n
    · simp [h, show ¬ m > n by omega]; exact .int k n hn
    · simp [h, show m > n by omega]; exact .int k m hm
  | false =>
    refine ⟨.int k (if m < n then m else n), by simp [Builtin.min2], ?_⟩
    show VR μ (cV (Nat.ble (biasI n) (biasI m)) _ _) _
    rw [(hCmp_eq hn hm).2, cV_eq]
    by_cases h : n ≤ m
    · simp [h, show ¬ m < n by omega]; exact .int k n hn
    · simp [h, show m < n by omega]; exact .int k m hm

/-! ## Strings -/
theorem packB_lt : ∀ l : List UInt8, packB l < 256 ^ l.length
  | [] => by simp [packB]
  | b :: l => by
    have := packB_lt l
    have hb := b.toNat_lt
    show b.toNat + 256 * packB l < 256 ^ (l.length + 1)
    rw [Nat.pow_succ]
    omega
theorem packB_cons (b : UInt8) (l : List UInt8) : packB (b :: l) = b.toNat + 256 * packB l := rfl
theorem packB_append : ∀ l m : List UInt8, packB (l ++ m) = packB l + packB m * 256 ^ l.length
  | [], m => by simp [packB]
  | b :: l, m => by
    rw [List.cons_append, packB_cons, packB_append l m, packB_cons, List.length_cons, Nat.pow_succ]
    rw [Nat.mul_add, Nat.add_assoc, Nat.mul_comm (256 ^ l.length) 256, ← Nat.mul_assoc, ← Nat.mul_assoc, Nat.mul_comm 256 (packB m)]
theorem packB_drop : ∀ (i : Nat) (l : List UInt8), packB (l.drop i) = packB l / 256 ^ i
  | 0, l => by simp
  | i + 1, [] => by simp [packB]
  | i + 1, b :: l => by
    have hb := b.toNat_lt
    rw [List.drop_succ_cons, packB_drop i l, packB_cons, Nat.pow_succ, Nat.mul_comm (256 ^ i) 256, ← Nat.div_div_eq_div_mul]
    congr 1
    omega
theorem packB_take : ∀ (i : Nat) (l : List UInt8), packB (l.take i) = packB l % 256 ^ i
  | 0, l => by simp [packB, Nat.mod_one]
  | i + 1, [] => by simp [packB]
  | i + 1, b :: l => by
    have hb := b.toNat_lt
    rw [List.take_succ_cons, packB_cons, packB_take i l, packB_cons, Nat.pow_succ, Nat.mul_comm (256 ^ i) 256, Nat.mod_mul]
    have h1 : (b.toNat + 256 * packB l) % 256 = b.toNat := by omega
    have h2 : (b.toNat + 256 * packB l) / 256 = packB l := by omega
    rw [h1, h2]
theorem packB_inj : ∀ l m : List UInt8, l.length = m.length → packB l = packB m → l = m
  | [], [], _, _ => rfl
  | [], _ :: _, h, _ => by simp at h
  | _ :: _, [], h, _ => by simp at h
  | b :: l, c :: m, h, e => by
    have hb := b.toNat_lt
    have hc := c.toNat_lt
    rw [packB_cons, packB_cons] at e
    rw [packB_inj l m (by simpa using h) (by omega), UInt8.toNat_inj.1 (show b.toNat = c.toNat by omega)]
theorem pow8 (n : Nat) : 2 ^ (8 * n) = 256 ^ n := by rw [Nat.pow_mul]
theorem and255 (n : Nat) : Nat.land n 255 = n % 256 := Nat.and_two_pow_sub_one_eq_mod n 8
theorem byteAt_eq {l : List UInt8} {i : Nat} (h : i < l.length) : byteAt (packB l) i = l[i].toNat := by
  unfold byteAt
  rw [and255, shr, Nat.mul_eq, pow8, ← packB_drop, List.drop_eq_getElem_cons h, packB_cons]
  have := l[i].toNat_lt
  omega
theorem subStr_eq (l : List UInt8) (a b : Nat) : subStr (packB l) a b = packB ((l.drop a).take (b - a)) := by
  unfold subStr
  rw [packB_take, packB_drop, shr, Nat.mul_eq, Nat.mul_eq, pow8]
  show _ % 2 ^ (8 * (b - a)) = _
  rw [pow8]
theorem catStr_eq (l m : List UInt8) : catStr l.length (packB l) (packB m) = packB (l ++ m) := by
  unfold catStr
  rw [packB_append]
  show _ + _ * 2 ^ (8 * l.length) = _
  rw [pow8]
theorem strLess_eq : ∀ (f : Nat) (l m : List UInt8), m.length < f → strLess f l.length (packB l) m.length (packB m) = Op.bytesLess l m
  | 0, l, m, h => by omega
  | f + 1, l, [], h => by
    unfold strLess
    simp [cT_eq, Op.bytesLess]
  | f + 1, [], c :: m, h => by
    unfold strLess
    rw [show Nat.beq (c :: m).length 0 = false from rfl, cT_false, show Nat.beq ([] : List UInt8).length 0 = true from rfl, cT_true]
    rfl
  | f + 1, b :: l, c :: m, h => by
    have hb := b.toNat_lt
    have hc := c.toNat_lt
    unfold strLess
    rw [show Nat.beq (c :: m).length 0 = false from rfl, cT_false, show Nat.beq (b :: l).length 0 = false from rfl, cT_false]
    rw [and255, and255, shr, shr, packB_cons, packB_cons]
    have e1 : (b.toNat + 256 * packB l) % 256 = b.toNat := by omega
    have e2 : (c.toNat + 256 * packB m) % 256 = c.toNat := by omega
    have e3 : (b.toNat + 256 * packB l) / 2 ^ 8 = packB l := by omega
    have e4 : (c.toNat + 256 * packB m) / 2 ^ 8 = packB m := by omega
    rw [e1, e2, e3, e4, show Nat.sub (b :: l).length 1 = l.length from rfl, show Nat.sub (c :: m).length 1 = m.length from rfl, strLess_eq f l m (by simpa using h)]
    rw [cT_eq]
    show _ = (decide (b < c) || (b == c && Op.bytesLess l m))
    by_cases hbc : b = c
    · subst hbc
      simp
    · have hne : b.toNat ≠ c.toNat := fun e => hbc (UInt8.toNat_inj.1 e)
      have h1 : (b == c) = false := by simpa using hbc
      rw [h1, beq_f hne]
      simp only [Bool.false_eq_true, if_false, Bool.false_and, Bool.or_false]
      rw [Bool.eq_iff_iff, ble_t, decide_eq_true_eq, UInt8.lt_iff_toNat_lt]
      exact Nat.succ_le_iff
theorem strV_eq (n d : Nat) : strV n d = vStr n d := by unfold strV; rw [show bA (Nat.ble 0 n) (Nat.ble 0 d) = true by simp]; rfl
theorem toList_eq (s : ByteArray) : s.toList = s.data.toList := ByteArray.toList_eq s
theorem vr_str {l : List UInt8} {s : ByteArray} (h : s.data.toList = l) : VR μ (vStr l.length (packB l)) (.string s) := h ▸ .str s
theorem strEq_eq (s r : ByteArray) : bA (Nat.beq s.data.toList.length r.data.toList.length) (Nat.beq (packB s.data.toList) (packB r.data.toList)) = (s.toList == r.toList) := by
  rw [Bool.eq_iff_iff, bA_true, beq_t, beq_t, toList_eq, toList_eq, beq_iff_eq]
  exact ⟨fun h => packB_inj _ _ h.1 h.2, fun h => by rw [h]; exact ⟨rfl, rfl⟩⟩
theorem lessOrEq (l m : List UInt8) : (Op.bytesLess l m || l == m) = !Op.bytesLess m l := by
  induction l generalizing m with
  | nil => cases m <;> simp [Op.bytesLess]
  | cons a l ih =>
    cases m with
    | nil => simp [Op.bytesLess]
    | cons b m =>
      have := ih m
      simp only [Op.bytesLess]
      by_cases h : a = b
      · subst h
        have hlt : ¬ a < a := by rw [UInt8.lt_iff_toNat_lt]; omega
        simpa [hlt] using this
      · have h' : b ≠ a := fun e => h e.symm
        have e1 : (a == b) = false := by simpa using h
        have e2 : (b == a) = false := by simpa using h'
        have e3 : ((a :: l) == (b :: m)) = false := by simp [h]
        rw [e1, e2, e3]
        have hne : a.toNat ≠ b.toNat := fun e => h (UInt8.toNat_inj.1 e)
        simp only [Bool.false_and, Bool.or_false]
        rw [Bool.eq_iff_iff]
        simp only [decide_eq_true_eq, Bool.not_eq_true', decide_eq_false_iff_not, UInt8.lt_iff_toNat_lt]
        omega
theorem string_sound {op : BinOp} {v u : AV} {x y : Value} {t : TypeId} (hv : VR μ v x) (hu : VR μ u y) (hok : Ok (s2 (stringH op) v u)) :
    ∃ z, (Go.binOp op t x y).run P w = .ok z w ∧ VR μ (s2 (stringH op) v u) z := by
  unfold s2 at hok ⊢
  rw [ok_cV, bA_true, beq_t, beq_t] at hok
  obtain ⟨⟨h1, h2⟩, h3⟩ := hok
  obtain ⟨s, rfl, rfl⟩ := hv.inv_str h1
  obtain ⟨r, rfl, rfl⟩ := hu.inv_str h2
  rw [show bA (Nat.beq (vStr s.data.toList.length (packB s.data.toList)).t 2) (Nat.beq (vStr r.data.toList.length (packB r.data.toList)).t 2) = true from rfl, cV_true]
  show ∃ z, _ ∧ VR μ (stringH op s.data.toList.length (packB s.data.toList) r.data.toList.length (packB r.data.toList)) z
  have h3' : Ok (stringH op s.data.toList.length (packB s.data.toList) r.data.toList.length (packB r.data.toList)) := h3
  have cmp' : ∀ c d : Bool, (d = !c) → VR μ (cV c vF vT) (.bool d) := fun c d h => h ▸ .of_bool'' c
  have lt1 := strLess_eq (Nat.succ r.data.toList.length) s.data.toList r.data.toList (by omega)
  have lt2 := strLess_eq (Nat.succ s.data.toList.length) r.data.toList s.data.toList (by omega)
  have le1 := lessOrEq s.data.toList r.data.toList
  cases op <;> simp only [stringH] at h3' ⊢
  case add =>
    unfold hCat at h3' ⊢
    rw [ok_cV] at h3'
    rw [h3'.1, cV_true, strV_eq, Nat.add_eq, ← List.length_append, catStr_eq]
    have hb := h3'.1
    rw [ble_t, Nat.add_eq] at hb
    have hs : ∀ s : ByteArray, s.size = s.data.toList.length := fun s => rfl
    refine ⟨.string (s ++ r), ?_, vr_str (by simp)⟩
    have : ¬ (((s.size + r.size : Nat) : Int) > IntKind.i64.max) := by
      rw [mm_max, hs, hs]; simp only; omega
    show (Op.stringOp .add s r).run P w = _
    unfold Op.stringOp
    dsimp only
    rw [if_neg this]; rfl
  case eql => exact ⟨.bool (s.toList == r.toList), by simp [Go.binOp, Op.stringOp], by rw [hSEq, strEq_eq]; exact .of_bool _⟩
  case neq => exact ⟨.bool (!(s.toList == r.toList)), by simp [Go.binOp, Op.stringOp], by rw [hSNe, strEq_eq]; exact .of_bool'' _⟩
  case lss => exact ⟨.bool (Op.bytesLess s.toList r.toList), by simp [Go.binOp, Op.stringOp], by rw [hSLt, lt1, toList_eq, toList_eq]; exact .of_bool _⟩
  case geq => exact ⟨.bool (!Op.bytesLess s.toList r.toList), by simp [Go.binOp, Op.stringOp], by rw [hSGe, lt1, toList_eq, toList_eq]; exact .of_bool'' _⟩
  case gtr => exact ⟨.bool (!(Op.bytesLess s.toList r.toList || s.toList == r.toList)), by simp [Go.binOp, Op.stringOp], by rw [hSGt, lt2, toList_eq, toList_eq, le1, Bool.not_not]; exact .of_bool _⟩
  case leq => exact ⟨.bool (Op.bytesLess s.toList r.toList || s.toList == r.toList), by simp [Go.binOp, Op.stringOp], by rw [hSLe, lt2, toList_eq, toList_eq, le1]; exact .of_bool'' _⟩
  all_goals simp [hSNone] at h3'
end Go.Ev

/-! Proofs, part 6: loads and stores. -/
namespace Go.Ev
set_option linter.unusedVariables false
set_option linter.unusedSimpArgs false
variable {μ : Mu} {P : Program} {w : World} {H : Heap} {ro : Nat}

/-! ## Types -/
theorem und_run {t : TypeId} {d : TypeDesc} (h : P.underlying t = some d) : (underlying t).run P w = .ok d w := by simp [underlying, h]
theorem infoOk_inv {t : TypeId} (h : infoOk P t = true) : ∃ i, P.info? t = some i ∧ szOf P t = i.size := by
  unfold infoOk at h
  split at h
  · rename_i i hi; exact ⟨i, hi, by simp [szOf, hi]⟩
  · cases h
theorem szOf_pos {t : TypeId} (h : 0 < szOf P t) : infoOk P t = true := by
  unfold szOf at h
  unfold infoOk
  split at h
  · rename_i i hi; simp [hi]
  · omega
theorem und_info {t : TypeId} {d : TypeDesc} (h : P.underlying t = some d) : infoOk P t = true := by
  unfold Program.underlying at h
  unfold infoOk
  split at h
  · rename_i hi; rw [hi]
  · rename_i hi; rw [hi]
  · cases h
theorem tyOk_inv {t : TypeId} (h : tyOk P t = true) : ∃ d, P.underlying t = some d := by
  unfold tyOk at h
  split at h
  · rename_i d hd; exact ⟨d, hd⟩
  · cases h
theorem size_run {t : TypeId} (h : infoOk P t = true) : (sizeOf t).run P w = .ok (szOf P t) w := by
  obtain ⟨i, hi, e⟩ := infoOk_inv h
  simp [sizeOf, typeInfo, hi, e]
theorem isAgg_run {t : TypeId} (h : tyOk P t = true) : (isAgg t).run P w = .ok (aggT P t) w := by
  obtain ⟨d, hd⟩ := tyOk_inv h
  unfold isAgg aggT
  rw [Sem.run_bind, und_run hd, hd]
  cases d <;> rfl

/-! ## Cells of worlds -/
theorem cell_of {cb o : Nat} {c : Array Value} {e : TypeId} {fr : Nat × Nat} (h : w.heap[cb]? = some (.cells c e fr)) : w.cell? ⟨cb, o, none⟩ = c[o]? := by
  simp [World.cell?, h]
theorem frozen_of {cb o : Nat} {c : Array Value} {e : TypeId} {fr : Nat × Nat} (h : w.heap[cb]? = some (.cells c e fr)) (hc : CellsOk c fr) (ho : o < c.size) :
    w.frozen? ⟨cb, o, none⟩ = false := by
  obtain ⟨lo, hi⟩ := fr
  simp only [World.frozen?, h]
  have := hc.1 o ho
  simp only at this
  rw [Bool.eq_false_iff]
  intro hh
  simp at hh
  exact this hh
theorem add_eq (cb o j : Nat) : (⟨cb, o, none⟩ : Addr).add j = ⟨cb, o + j, none⟩ := by
  unfold Addr.add
  split
  · rename_i h; subst h; rfl
  · rfl
theorem load1_run {cb o : Nat} {c : Array Value} {e : TypeId} {fr : Nat × Nat} {v : Value} (h : w.heap[cb]? = some (.cells c e fr)) (hv : c[o]? = some v) :
    (load ⟨cb, o, none⟩).run P w = .ok v w := by
  rw [run_load, cell_of h, hv]
theorem loadCells_run {cb o n : Nat} {c : Array Value} {e : TypeId} {fr : Nat × Nat} (h : w.heap[cb]? = some (.cells c e fr)) (hn : o + n ≤ c.size) :
    (loadCells ⟨cb, o, none⟩ n).run P w = .ok ⟨(c.toList.drop o).take n⟩ w := by
  have hlen : ((c.toList.drop o).take n).length = n := by simp; omega
  have := run_loadCells_list (P := P) w ⟨cb, o, none⟩ ((c.toList.drop o).take n) (fun j v hj => by
    rw [add_eq, cell_of h]
    have hj' : j < n := by
      have := (List.getElem?_eq_some_iff.1 hj).1
      simp at this; omega
    rw [List.getElem?_take_of_lt hj', List.getElem?_drop] at hj
    simpa using hj)
  rw [hlen] at this
  exact this
theorem setCell_eq {cb o : Nat} {c : Array Value} {e : TypeId} {fr : Nat × Nat} {v : Value} (h : w.heap[cb]? = some (.cells c e fr)) :
    w.setCell ⟨cb, o, none⟩ v = w.setB cb (.cells (c.setIfInBounds o v) e fr) := by
  have hlt := get_lt h
  unfold World.setCell World.setB
  congr 1
  apply Array.ext_getElem?
  intro i
  rw [Array.getElem?_modify, Array.getElem?_setIfInBounds]
  by_cases hi : cb = i
  · subst hi
    have he := (Array.getElem?_eq_some_iff.1 h).2
    simp [hlt, he]
  · simp [hi]
theorem setB_setB (w : World) (c : Nat) (o o' : Obj) : (w.setB c o).setB c o' = w.setB c o' := by
  unfold World.setB
  congr 1
  apply Array.ext_getElem?
  intro i
  simp only [Array.getElem?_setIfInBounds, Array.size_setIfInBounds]
  by_cases hi : c = i
  · subst hi; simp
  · simp [hi]
/-- vs in the place of what lies from o on -/
def spl (c : Array Value) (o : Nat) (vs : List Value) : Array Value := ⟨c.toList.take o ++ vs ++ c.toList.drop (o + vs.length)⟩
theorem spl_size {c : Array Value} {o : Nat} {vs : List Value} (h : o + vs.length ≤ c.size) : (spl c o vs).size = c.size := by
  unfold spl
  simp only [List.size_toArray, List.length_append, List.length_take, List.length_drop, Array.length_toList]
  omega
theorem spl_nil (c : Array Value) (o : Nat) : spl c o [] = c := by
  unfold spl; simp
theorem spl_get {c : Array Value} {o : Nat} {vs : List Value} (h : o ≤ c.size) (k : Nat) :
    (spl c o vs).toList[k]? = if k < o then c.toList[k]? else if k < o + vs.length then vs[k - o]? else c.toList[k]? := by
  have hsz : c.toList.length = c.size := by simp
  unfold spl
  simp only
  have l1 : (c.toList.take o).length = o := by rw [List.length_take, hsz]; omega
  rw [List.append_assoc, List.getElem?_append, l1]
  by_cases k1 : k < o
  · rw [if_pos k1, if_pos k1, List.getElem?_take_of_lt k1]
  · rw [if_neg k1, if_neg k1, List.getElem?_append]
    by_cases k2 : k < o + vs.length
    · rw [if_pos (by omega), if_pos k2]
    · rw [if_neg (by omega), if_neg k2, List.getElem?_drop]
      congr 1; omega
theorem spl_cons (c : Array Value) (o : Nat) (v : Value) (vs : List Value) (h : o < c.size) : spl (c.setIfInBounds o v) (o + 1) vs = spl c o (v :: vs) := by
  apply Array.ext'
  apply List.ext_getElem?
  intro k
  rw [spl_get (by rw [Array.size_setIfInBounds]; omega), spl_get (by omega), Array.toList_setIfInBounds, List.getElem?_set, List.length_cons]
  have hsz : c.toList.length = c.size := by simp
  by_cases k1 : k < o
  · rw [if_pos (show k < o + 1 by omega), if_neg (show ¬ o = k by omega), if_pos k1]
  · by_cases k2 : o = k
    · subst k2
      rw [if_pos (show o < o + 1 by omega), if_pos rfl, if_pos (show o < c.toList.length by omega), if_neg (show ¬ o < o by omega), if_pos (show o < o + (vs.length + 1) by omega)]
      simp
    · rw [if_neg (show ¬ k < o + 1 by omega), if_neg k2, if_neg k1]
      by_cases k3 : k < o + 1 + vs.length
      · rw [if_pos k3, if_pos (show k < o + (vs.length + 1) by omega)]
        obtain ⟨j, rfl⟩ : ∃ j, k = o + 1 + j := ⟨k - (o + 1), by omega⟩
        rw [show o + 1 + j - (o + 1) = j by omega, show o + 1 + j - o = j + 1 by omega]
        simp
      · rw [if_neg k3, if_neg (show ¬ k < o + (vs.length + 1) by omega)]
theorem storeCells_run {cb o : Nat} {e : TypeId} {fr : Nat × Nat} : ∀ (vs : List Value) (i : Nat) (c : Array Value) (w : World),
    w.heap[cb]? = some (.cells c e fr) → o + i + vs.length ≤ c.size → (∀ p, p < c.size → ¬ (fr.1 ≤ p ∧ p < fr.2)) → (∀ v ∈ vs, v.oneCell' = true) →
    (storeCells ⟨cb, o, none⟩ vs i).run P w = .ok () (w.setB cb (.cells (spl c (o + i) vs) e fr))
  | [], i, c, w, h, hn, hf, h1 => by
    rw [spl_nil]
    unfold storeCells
    rw [Sem.run_pure]
    congr 1
    unfold World.setB
    have hlt := get_lt h
    rw [show w.heap.setIfInBounds cb (.cells c e fr) = w.heap from ?_]
    apply Array.ext_getElem?
    intro j
    rw [Array.getElem?_setIfInBounds]
    by_cases hj : cb = j
    · subst hj
      have he := (Array.getElem?_eq_some_iff.1 h).2
      simp [hlt, he]
    · simp [hj]
  | v :: vs, i, c, w, h, hn, hf, h1 => by
    have ho : o + i < c.size := by simp at hn; omega
    have hc := cell_of (o := o + i) h
    have hg : c[o + i]? = some c[o + i] := by simp [ho]
    unfold storeCells
    rw [Sem.run_bind, add_eq, run_store P w _ v _ (h1 v (by simp)), hc, hg]
    have hfz : w.frozen? ⟨cb, o + i, none⟩ = false := by
      obtain ⟨lo, hi⟩ := fr
      simp only [World.frozen?, h]
      have := hf (o + i) ho
      rw [Bool.eq_false_iff]; intro hh; simp at hh; exact this hh
    simp only [hfz, Bool.false_eq_true, if_false, Result.andThen_ok]
    rw [setCell_eq h]
    have hlt := get_lt h
    have := storeCells_run (cb := cb) (o := o) (e := e) (fr := fr) vs (i + 1) (c.setIfInBounds (o + i) v) (w.setB cb (.cells (c.setIfInBounds (o + i) v) e fr))
      (by rw [setB_get _ _ _ _ hlt]; simp) (by rw [Array.size_setIfInBounds]; rw [List.length_cons] at hn; omega) (by rw [Array.size_setIfInBounds]; exact hf) (fun u hu => h1 u (by simp [hu]))
    rw [this, setB_setB, show o + (i + 1) = (o + i) + 1 by omega, spl_cons _ _ _ _ ho]
theorem CellsOk.spl {c : Array Value} {fr : Nat × Nat} (h : CellsOk c fr) {o : Nat} {vs : List Value} (hn : o + vs.length ≤ c.size) (h1 : ∀ v ∈ vs, v.oneCell' = true) : CellsOk (spl c o vs) fr := by
  refine ⟨fun p hp => h.1 p (by rwa [spl_size hn] at hp), fun x hx => ?_⟩
  simp only [Ev.spl] at hx
  rw [List.mem_append, List.mem_append] at hx
  rcases hx with (hx | hx) | hx
  · exact h.2 x (List.mem_of_mem_take hx)
  · exact h1 x hx
  · exact h.2 x (List.mem_of_mem_drop hx)

/-! ## Loads -/
theorem drop_take_drop (L : List Value) (a s r n : Nat) (h : r + n ≤ s) : ((((L.drop a).take s).drop r).take n) = (L.drop (a + r)).take n := by
  rw [List.drop_take, List.take_take, List.drop_drop, Nat.min_eq_left (by omega)]
theorem cells_rel (hH : HR μ H w) {b n o : Nat} {m : MB} (hb : μ b = some m) (hn : 0 < n) (hl : (cellsB (hget H b) n o).length = n) :
    ∃ c e fr, w.heap[m.c]? = some (.cells c e fr) ∧ o + m.q + n ≤ c.size ∧ VRs μ (cellsB (hget H b) n o) ((c.toList.drop (o + m.q)).take n) ∧ CellsOk c fr := by
  unfold cellsB at hl ⊢
  rw [cL_eq, cL_eq] at hl
  rw [cL_eq, cL_eq]
  by_cases h1 : (hget H b).t = 1
  · have e1 : Nat.beq (hget H b).t 1 = true := by simp [h1]
    rw [e1, if_pos rfl] at hl ⊢
    obtain ⟨c, e, h2, h3, h4, h5, h6, h7⟩ := hH.row hb h1
    obtain ⟨k1, k2⟩ := rangeL_eq _ _ _ _ hl hn
    have hlen := h5.1
    refine ⟨c, e, (0, 0), h2, by rw [h3]; simp at hlen; omega, ?_, h6⟩
    rw [k1, h3, Nat.add_zero]
    exact (h5.drop _).take _
  · have e1 : Nat.beq (hget H b).t 1 = false := beq_f h1
    rw [e1] at hl ⊢
    simp only [Bool.false_eq_true, if_false] at hl ⊢
    by_cases h2 : (hget H b).t = 2
    · have e2 : Nat.beq (hget H b).t 2 = true := by simp [h2]
      rw [e2, if_pos rfl] at hl ⊢
      unfold cellsA at hl ⊢
      rw [cL_eq] at hl ⊢
      split at hl
      · rename_i hc
        rw [if_pos hc]
        rw [bA_true, ble_t, ble_t] at hc
        obtain ⟨c, e, fr, k1, k2, k3, k4, k5, k6, k7, k8⟩ := hH.arr hb h2
        obtain ⟨j1, j2⟩ := rangeL_eq _ _ _ _ hl hn
        have hi : Nat.div o (hget H b).s < (hget H b).n := hc.1
        have hr := k7 _ hi
        have hlen := hr.1
        have hdm : Nat.div o (hget H b).s * (hget H b).s + Nat.mod o (hget H b).s = o := by
          rw [Nat.mul_comm]; exact Nat.div_add_mod o _
        have hle : Nat.mod o (hget H b).s + n ≤ (hget H b).s := hc.2
        have hi' : (Nat.div o (hget H b).s + 1) * (hget H b).s ≤ (hget H b).n * (hget H b).s := Nat.mul_le_mul_right _ hi
        rw [Nat.add_mul, Nat.one_mul] at hi'
        refine ⟨c, e, fr, k1, by omega, ?_, k6⟩
        rw [j1]
        have := ((hr.drop (Nat.mod o (hget H b).s)).take n)
        rw [drop_take_drop _ _ _ _ _ hle, show m.q + Nat.div o (hget H b).s * (hget H b).s + Nat.mod o (hget H b).s = o + m.q by omega] at this
        exact this
      · simp at hl; omega
    · have e2 : Nat.beq (hget H b).t 2 = false := beq_f h2
      rw [e2] at hl
      simp at hl; omega
theorem cell1_rel (hH : HR μ H w) {b o : Nat} {m : MB} (hb : μ b = some m) (hok : Ok (cell1B (hget H b) o)) :
    ∃ c e fr v, w.heap[m.c]? = some (.cells c e fr) ∧ c[o + m.q]? = some v ∧ VR μ (cell1B (hget H b) o) v ∧ CellsOk c fr := by
  unfold cell1B at hok ⊢
  rcases ok_cV' hok with ⟨h1, h2, e⟩ | ⟨h1, h2, e⟩
  · rw [e]
    rw [beq_t] at h1
    obtain ⟨c, e, k2, k3, k4, k5, k6, k7⟩ := hH.row hb h1
    obtain ⟨x, hx, hv⟩ := k5.nth h2
    exact ⟨c, e, (0, 0), x, k2, by rw [k3]; simpa using hx, hv, k6⟩
  · rw [e]
    rw [ok_cV, beq_t] at h2
    obtain ⟨h2, h3⟩ := h2
    rw [show Nat.beq (hget H b).t 2 = true by simp [h2], cV_true]
    unfold cell1A at h3 ⊢
    rw [ok_cV, ble_t] at h3
    obtain ⟨hi, h3⟩ := h3
    rw [show Nat.ble (Nat.succ (Nat.div o (hget H b).s)) (hget H b).n = true by rw [ble_t]; exact hi, cV_true]
    obtain ⟨c, e, fr, k1, k2, k3, k4, k5, k6, k7, k8⟩ := hH.arr hb h2
    obtain ⟨x, hx, hv⟩ := (k7 _ hi).nth h3
    have hdm : Nat.div o (hget H b).s * (hget H b).s + Nat.mod o (hget H b).s = o := by
      rw [Nat.mul_comm]; exact Nat.div_add_mod o _
    have hms : Nat.mod o (hget H b).s < (hget H b).s := Nat.mod_lt _ k3
    rw [List.getElem?_take_of_lt hms, List.getElem?_drop, show m.q + Nat.div o (hget H b).s * (hget H b).s + Nat.mod o (hget H b).s = o + m.q by omega] at hx
    exact ⟨c, e, fr, x, k1, by simpa using hx, hv, k6⟩
theorem sub_one {c : Array Value} {fr : Nat × Nat} (h : CellsOk c fr) (o n : Nat) : ∀ x ∈ (c.toList.drop o).take n, x.oneCell' = true :=
  fun x hx => h.2 x (List.mem_of_mem_drop (List.mem_of_mem_take hx))
theorem aggV_ok {n : Nat} {cs : List AV} (h : Ok (aggV n cs)) : cs.length = n ∧ aggV n cs = vAgg n cs := by
  unfold aggV at h ⊢
  rw [ok_cV, lenIs_eq] at h
  rw [show lenIs n cs = true by rw [lenIs_eq]; exact h.1]
  exact ⟨h.1, rfl⟩
/-- a variable is loaded -/
theorem load_sound {t : TypeId} {v : AV} {x : Value} (hH : HR μ H w) (hv : VR μ v x) (ht : tyOk P t = true)
    (hok : Ok (cT (aggT P t) (loadN (szOf P t)) load1 v H)) :
    ∃ m, μ v.a = some m ∧ x = .pointer (some ⟨m.c, v.b + m.q, none⟩) ∧ ∃ z, (loadVar t ⟨m.c, v.b + m.q, none⟩).run P w = .ok z w ∧ VR μ (cT (aggT P t) (loadN (szOf P t)) load1 v H) z := by
  obtain ⟨d, hd⟩ := tyOk_inv ht
  have hag := isAgg_run (w := w) ht
  cases ha : aggT P t with
  | true =>
    rw [ha] at hok
    rw [cT_true] at hok ⊢
    unfold loadN at hok ⊢
    rw [ok_cV, beq_t] at hok
    obtain ⟨h1, h2⟩ := hok
    rw [show Nat.beq v.t 3 = true by simp [h1], cV_true]
    obtain ⟨m, hm, rfl, _⟩ := hv.inv_ptr h1
    obtain ⟨h3, h4⟩ := aggV_ok h2
    refine ⟨m, hm, rfl, ?_⟩
    rw [h4]
    rcases Nat.eq_zero_or_pos (szOf P t) with h0 | hp
    · rw [h0] at h3 ⊢
      refine ⟨.agg #[], ?_, ?_⟩
      · unfold loadVar
        rw [Sem.run_bind, hag, Result.andThen_ok, ha]
        simp only [if_true, Sem.run_bind, size_run (und_info hd), h0, Result.andThen_ok, Sem.run_pure]
        simp [loadCells, loadCellsFrom]
      · rw [List.eq_nil_of_length_eq_zero h3]; exact .of_agg (cs := []) (xs := []) .nil (by simp)
    · obtain ⟨c, e, fr, k1, k2, k3, k4⟩ := cells_rel hH hm hp h3
      refine ⟨.agg ⟨(c.toList.drop (v.b + m.q)).take (szOf P t)⟩, ?_, .of_agg' k3 (sub_one k4 _ _) h3⟩
      unfold loadVar
      rw [Sem.run_bind, hag, Result.andThen_ok, ha]
      simp only [if_true, Sem.run_bind, size_run (und_info hd), Result.andThen_ok, Sem.run_pure, loadCells_run k1 k2]
  | false =>
    rw [ha] at hok
    rw [cT_false] at hok ⊢
    unfold load1 at hok ⊢
    rw [ok_cV, beq_t] at hok
    obtain ⟨h1, h2⟩ := hok
    rw [show Nat.beq v.t 3 = true by simp [h1], cV_true]
    obtain ⟨m, hm, rfl, _⟩ := hv.inv_ptr h1
    obtain ⟨c, e, fr, z, k1, k2, k3, _⟩ := cell1_rel hH hm h2
    refine ⟨m, hm, rfl, z, ?_, k3⟩
    unfold loadVar
    rw [Sem.run_bind, hag, Result.andThen_ok, ha]
    simp only [Bool.false_eq_true, if_false]
    exact load1_run k1 k2

/-! ## Stores -/
/-- a value's cells -/
theorem cells_of {v : AV} {x : Value} {n : Nat} (hv : VR μ v x) (h : cellsOk v n = true) :
    ∃ xs, x.cells = ⟨xs⟩ ∧ VRs μ (cellsL v) xs ∧ (∀ y ∈ xs, y.oneCell' = true) ∧ xs.length = n ∧ 0 < n ∧ (cellsL v).length = n := by
  unfold cellsOk at h
  unfold cellsL
  by_cases h1 : v.t = 21
  · have e : Nat.beq v.t 21 = true := by simp [h1]
    rw [e] at h ⊢
    rw [cT_true, bA_true, bA_true, beq_t, ble_t, lenIs_eq] at h
    obtain ⟨xs, rfl, h2, h3, h4, _⟩ := hv.inv_agg h1
    exact ⟨xs, rfl, h2, h3, by rw [← h2.1]; exact h.2.2, h.2.1, h.2.2⟩
  · have e : Nat.beq v.t 21 = false := beq_f h1
    rw [e] at h ⊢
    rw [cT_false, bA_true, bA_true, beq_t, ble_t] at h
    obtain ⟨rfl, h2, h3⟩ := h
    have h4 : v.t ≠ 22 := fun e => by rw [e] at h3; simp at h3
    have h5 := hv.one h1 h4
    refine ⟨[x], ?_, .single hv, by simpa using h5, rfl, by omega, rfl⟩
    cases x <;> first | rfl | (simp [Value.oneCell'] at h5)
theorem htGet_set (l : List AV) (t : HT (List AV)) (i j : Nat) (x : List AV) (hi : i < 1099511627776) (hj : j < 1099511627776) :
    htGet l HD (htSet l HD t i x) j = if j = i then x else htGet l HD t j := htSet_get l HD t i j x (HD_lt hi) (HD_lt hj)
/-- a splice within one element of an array -/
theorem spl_elem {c : Array Value} {q i j s r : Nat} {vs : List Value} (hr : r + vs.length ≤ s) (hc : q + (i + 1) * s ≤ c.size) (hcj : q + (j + 1) * s ≤ c.size) (hs : 0 < s) :
    ((spl c (q + i * s + r) vs).toList.drop (q + j * s)).take s =
      if j = i then (((c.toList.drop (q + i * s)).take s).take r ++ vs ++ ((c.toList.drop (q + i * s)).take s).drop (r + vs.length)) else (c.toList.drop (q + j * s)).take s := by
  have hci : q + i * s + s ≤ c.size := by rw [Nat.add_mul, Nat.one_mul] at hc; omega
  have hcj' : q + j * s + s ≤ c.size := by rw [Nat.add_mul, Nat.one_mul] at hcj; omega
  have hsz : c.toList.length = c.size := by simp
  have hspl := fun k => spl_get (c := c) (o := q + i * s + r) (vs := vs) (by omega) k
  apply List.ext_getElem?
  intro k
  by_cases hk : k < s
  · rw [List.getElem?_take_of_lt hk, List.getElem?_drop, hspl]
    by_cases hji : j = i
    · subst hji
      rw [if_pos rfl, List.append_assoc, List.getElem?_append]
      have l2 : (((c.toList.drop (q + j * s)).take s).take r).length = r := by simp only [List.length_take, List.length_drop, hsz]; omega
      rw [l2]
      by_cases k1 : k < r
      · rw [if_pos (by omega), if_pos k1, List.getElem?_take_of_lt k1, List.getElem?_take_of_lt hk, List.getElem?_drop]
      · rw [if_neg (by omega), if_neg k1, List.getElem?_append]
        by_cases k2 : k < r + vs.length
        · rw [if_pos (by omega), if_pos (by omega)]; congr 1; omega
        · rw [if_neg (by omega), if_neg (by omega), List.getElem?_drop, List.getElem?_take_of_lt (by omega), List.getElem?_drop]; congr 1; omega
    · rw [if_neg hji, List.getElem?_take_of_lt hk, List.getElem?_drop]
      rcases Nat.lt_or_gt_of_ne hji with h | h
      · have : (j + 1) * s ≤ i * s := Nat.mul_le_mul_right _ h
        rw [Nat.add_mul, Nat.one_mul] at this
        rw [if_pos (by omega)]
      · have : (i + 1) * s ≤ j * s := Nat.mul_le_mul_right _ h
        rw [Nat.add_mul, Nat.one_mul] at this
        rw [if_neg (by omega), if_neg (by omega)]
  · rw [List.getElem?_eq_none (by rw [List.length_take]; omega)]
    split
    · rw [List.getElem?_eq_none]
      simp only [List.length_append, List.length_take, List.length_drop, hsz]; omega
    · rw [List.getElem?_eq_none (by rw [List.length_take]; omega)]
/-- n cells are put into a block -/
theorem st_sound (hH : HR μ H w) {b n o : Nat} {m : MB} (hb : μ b = some m) (hro : ro ≤ b) {vs : List AV} {xs : List Value} (hv : VRs μ vs xs) (h1 : ∀ y ∈ xs, y.oneCell' = true)
    (hn : xs.length = n) (hp : 0 < n) {k : KR} (hok : stB (hget H b) o n vs H b k = .done) :
    ∃ H' w' c e fr, w.heap[m.c]? = some (.cells c e fr) ∧ o + m.q + n ≤ c.size ∧ (∀ p, p < c.size → ¬ (fr.1 ≤ p ∧ p < fr.2)) ∧
      w' = w.setB m.c (.cells (spl c (o + m.q) xs) e fr) ∧ HR μ H' w' ∧ Ext ro μ H w μ H' w' ∧ k undefA H' = .done := by
  have hlen : vs.length = n := hv.1.trans hn
  unfold stB at hok
  rcases cA_cases hok with ⟨h2, hok⟩ | ⟨h2, hok⟩
  · rw [beq_t] at h2
    unfold stRow kRow at hok
    rw [cA_done, ble_t, Nat.add_eq, cA_done, lenIs_eq] at hok
    obtain ⟨h3, h4, h5⟩ := hok
    obtain ⟨c, e, k2, k3, k4, k5, k6, k7⟩ := hH.row hb h2
    have hcl : (hget H b).l.length = c.size := by have := k5.1; simpa using this
    have hsz : o + xs.length ≤ c.size := by omega
    have hrel : VRs μ (cL (Nat.beq n (hget H b).n) vs (spliceL o vs (hget H b).l)) (spl c o xs).toList := by
      cases hnb : Nat.beq n (hget H b).n with
      | true =>
        rw [beq_t] at hnb
        have ho : o = 0 := by omega
        subst ho
        rw [cL_true]
        unfold spl
        simp only [List.take_zero, List.nil_append]
        rw [List.drop_of_length_le (by simp; omega), List.append_nil]
        exact hv
      | false =>
        rw [cL_false, spliceL_eq _ _ _ (by omega)]
        exact k5.splice hv o
    have hbr : BR μ (bRow (hget H b).n (cL (Nat.beq n (hget H b).n) vs (spliceL o vs (hget H b).l))) m (.cells (spl c o xs) e (0, 0)) :=
      .row rfl ⟨⟨_, e, rfl, k3, by rw [spl_size hsz]; exact k4, hrel, k6.spl hsz h1⟩, h4.symm⟩
    obtain ⟨g1, g2⟩ := hH.set hb (by omega) hro hbr
    refine ⟨_, _, c, e, (0, 0), k2, by omega, k6.1, ?_, g1, g2, h5⟩
    rw [k3]; rfl
  · rw [cA_done, beq_t] at hok
    obtain ⟨h3, hok⟩ := hok
    unfold stArr kArr at hok
    rw [cA_done, bA_true, ble_t, ble_t, cA_done, lenIs_eq] at hok
    obtain ⟨⟨hi, hle⟩, h4, h5⟩ := hok
    obtain ⟨c, e, fr, k1, k2, k3, k4, k5, k6, k7, k8⟩ := hH.arr hb h3
    have hdm : Nat.div o (hget H b).s * (hget H b).s + Nat.mod o (hget H b).s = o := by
      rw [Nat.mul_comm]; exact Nat.div_add_mod o _
    have hi0 : Nat.div o (hget H b).s < (hget H b).n := hi
    have hle0 : Nat.mod o (hget H b).s + n ≤ (hget H b).s := hle
    have hi' : (Nat.div o (hget H b).s + 1) * (hget H b).s ≤ (hget H b).n * (hget H b).s := Nat.mul_le_mul_right _ hi0
    have hi2 := hi'
    rw [Nat.add_mul, Nat.one_mul] at hi2
    have hsz : o + m.q + xs.length ≤ c.size := by omega
    have hoff : o + m.q = m.q + Nat.div o (hget H b).s * (hget H b).s + Nat.mod o (hget H b).s := by omega
    have hrel : ∀ j, j < (hget H b).n → VRs μ (htGet (hget H b).l HD (htSet (hget H b).l HD (hget H b).e (Nat.div o (hget H b).s)
        (cL (Nat.beq n (hget H b).s) vs (spliceL (Nat.mod o (hget H b).s) vs (htGet (hget H b).l HD (hget H b).e (Nat.div o (hget H b).s))))) j)
        (((spl c (o + m.q) xs).toList.drop (m.q + j * (hget H b).s)).take (hget H b).s) := by
      intro j hj
      have hj' : (j + 1) * (hget H b).s ≤ (hget H b).n * (hget H b).s := Nat.mul_le_mul_right _ hj
      rw [htGet_set _ _ _ _ _ (by omega) (by omega), hoff, spl_elem (by omega) (by omega) (by omega) k3]
      by_cases hji : j = Nat.div o (hget H b).s
      · rw [if_pos hji, if_pos hji]
        have hrow := k7 _ hi0
        have hrl : (htGet (hget H b).l HD (hget H b).e (Nat.div o (hget H b).s)).length = (hget H b).s := by
          rw [hrow.1, List.length_take, List.length_drop, Array.length_toList]; omega
        cases hnb : Nat.beq n (hget H b).s with
        | true =>
          rw [beq_t] at hnb
          have hm0 : Nat.mod o (hget H b).s = 0 := by omega
          rw [cL_true, hm0, List.take_zero, List.nil_append, List.drop_of_length_le (by rw [List.length_take]; omega), List.append_nil]
          exact hv
        | false =>
          rw [cL_false, spliceL_eq _ _ _ (by omega)]
          exact hrow.splice hv _
      · rw [if_neg hji, if_neg hji]
        exact k7 j hj
    have hbr : BR μ (bArr (hget H b).s (hget H b).n (hget H b).l (htSet (hget H b).l HD (hget H b).e (Nat.div o (hget H b).s)
        (cL (Nat.beq n (hget H b).s) vs (spliceL (Nat.mod o (hget H b).s) vs (htGet (hget H b).l HD (hget H b).e (Nat.div o (hget H b).s)))))) m (.cells (spl c (o + m.q) xs) e fr) :=
      .arr rfl ⟨⟨_, e, fr, rfl, k2, k3, by rw [spl_size hsz]; exact k4, by rw [spl_size hsz]; exact k5, k6.spl hsz h1, hrel⟩, k8⟩
    obtain ⟨g1, g2⟩ := hH.set hb (by omega) hro hbr
    exact ⟨_, _, c, e, fr, k1, by omega, k6.1, rfl, g1, g2, h5⟩
/-- a variable is stored into -/
theorem store_sound {t : TypeId} {p v : AV} {x y : Value} (hH : HR μ H w) (hp : VR μ p x) (hv : VR μ v y) {k : KR} (hok : storeH ro (szOf P t) p v H k = .done) :
    ∃ H' w', (Instr.storeAt t x y).run P w = .ok () w' ∧ HR μ H' w' ∧ Ext ro μ H w μ H' w' ∧ k undefA H' = .done := by
  unfold storeH at hok
  rw [cA_done, bA_true, bA_true, beq_t, ble_t] at hok
  obtain ⟨⟨h1, h2, h3⟩, h4⟩ := hok
  obtain ⟨m, hm, rfl, _⟩ := hp.inv_ptr h2
  obtain ⟨xs, e1, e2, e3, e4, e5, _⟩ := cells_of hv h1
  obtain ⟨H', w', c, e, fr, k1, k2, k3, k4, k5, k6, k7⟩ := st_sound hH hm h3 e2 e3 e4 e5 h4
  refine ⟨H', w', ?_, k5, k6, k7⟩
  have hrun := storeCells_run (P := P) (cb := m.c) (o := p.b + m.q) xs 0 c w k1 (by omega) k3 e3
  rw [Nat.add_zero, ← k4] at hrun
  have hsz : y.cells.size = szOf P t := by rw [e1]; exact e4
  unfold Instr.storeAt Instr.sureAddr
  simp only [Sem.run_bind, Sem.run_pure, Result.andThen_ok]
  unfold storeVar
  simp only [Sem.run_bind, size_run (szOf_pos e5), Result.andThen_ok, hsz, ne_eq, not_true_eq_false, if_false]
  rw [e1]
  exact hrun
end Go.Ev

/-! Proofs, part 7: addresses, parts, slices of slices. -/
namespace Go.Ev
set_option linter.unusedVariables false
set_option linter.unusedSimpArgs false
variable {μ : Mu} {P : Program} {w : World} {H : Heap} {ro : Nat}

theorem vr_ptr {b o off : Nat} {m : MB} (h : μ b = some m) (e : off = o + m.q) : VR μ (vPtr b o) (.pointer (some ⟨m.c, off, none⟩)) := e ▸ .ptr b o m h
theorem fieldAt_inv {s : TypeId} {i : Nat} {f : Field} (h : fieldAt' P s i = some f) : ∃ fs : Array Field, P.underlying s = some (.struct fs) ∧ fs[i]? = some f := by
  unfold fieldAt' at h
  split at h
  · rename_i fs hfs; exact ⟨fs, hfs, by simpa using h⟩
  · cases h
theorem fa_sound {s : TypeId} {i : Nat} {f : Field} {v : AV} {x : Value} (hf : fieldAt' P s i = some f) (hs : szOf P f.type ≠ 0) (hv : VR μ v x) (hok : Ok (faH f.offset v)) :
    ∃ z, (Instr.fieldAt s x i).run P w = .ok z w ∧ VR μ (faH f.offset v) z := by
  unfold faH at hok ⊢
  rw [ok_cV, beq_t] at hok
  obtain ⟨m, hm, rfl, _⟩ := hv.inv_ptr hok.1
  rw [show Nat.beq v.t 3 = true by simp [hok.1], cV_true]
  obtain ⟨fs, h1, h2⟩ := fieldAt_inv hf
  refine ⟨_, ?_, vr_ptr (off := v.b + m.q + f.offset) hm (by rw [Nat.add_eq]; omega)⟩
  unfold Instr.fieldAt Instr.sureAddr fieldPlace
  simp only [Sem.run_bind, und_run h1, Result.andThen_ok, h2, Sem.run_pure, size_run (szOf_pos (Nat.pos_of_ne_zero hs)), hs, if_false, add_eq, Sem.run_ite]
theorem asIntOf_run (k : IntKind) (n : Int) : (asIntOf (.int k n)).run P w = .ok (k, n) w := rfl
theorem ixS_sound {t e : TypeId} {v u : AV} {x y : Value} (ht : P.underlying t = some (.slice e)) (he : infoOk P e = true) (hv : VR μ v x) (hu : VR μ u y)
    (hok : Ok (ixS (szOf P e) v u)) : ∃ z, (Instr.indexAt t x y).run P w = .ok z w ∧ VR μ (ixS (szOf P e) v u) z := by
  unfold ixS at hok ⊢
  rw [ok_cV] at hok
  obtain ⟨h0, _⟩ := hok
  rw [h0, cV_true]
  rw [bA_true, bA_true, beq_t, ble_t] at h0
  obtain ⟨h1, h2, h3⟩ := h0
  obtain ⟨k, n, rfl, hn⟩ := isN_inv hu h2
  rw [hn] at h3 ⊢
  obtain ⟨m, off, cap, hm, rfl, _, hcap, hoff, _⟩ := hv.inv_sl h1
  have h3' : n < v.c := h3
  have hoff' : off = v.b + m.q := by omega
  subst hoff'
  refine ⟨_, ?_, vr_ptr (off := v.b + m.q + n * szOf P e) hm (by rw [Nat.add_eq, Nat.mul_eq]; omega)⟩
  unfold Instr.indexAt
  have hlt : (0 : Int) ≤ (n : Int) ∧ (n : Int) < (v.c : Int) := by omega
  simp only [Sem.run_bind, asIntOf_run, Result.andThen_ok, und_run ht, Sem.run_pure, hlt, and_self, if_true, size_run he, add_eq, Int.toNat_natCast]
theorem ixA_sound {t e : TypeId} {l : Nat} {v u : AV} {x y : Value} (ht : P.underlying t = some (.array l e)) (he : infoOk P e = true) (hv : VR μ v x) (hu : VR μ u y)
    (hok : Ok (ixA (szOf P e) l v u)) : ∃ z, (Instr.indexAt t x y).run P w = .ok z w ∧ VR μ (ixA (szOf P e) l v u) z := by
  unfold ixA at hok ⊢
  rw [ok_cV] at hok
  obtain ⟨h0, _⟩ := hok
  rw [h0, cV_true]
  rw [bA_true, bA_true, beq_t, ble_t] at h0
  obtain ⟨h1, h2, h3⟩ := h0
  obtain ⟨k, n, rfl, hn⟩ := isN_inv hu h2
  rw [hn] at h3 ⊢
  obtain ⟨m, hm, rfl, _⟩ := hv.inv_ptr h1
  have h3' : n < l := h3
  refine ⟨_, ?_, vr_ptr (off := v.b + m.q + n * szOf P e) hm (by rw [Nat.add_eq, Nat.mul_eq]; omega)⟩
  unfold Instr.indexAt Instr.sureAddr
  have hlt : (0 : Int) ≤ (n : Int) ∧ (n : Int) < (l : Int) := by omega
  simp only [Sem.run_bind, asIntOf_run, Result.andThen_ok, und_run ht, Sem.run_pure, hlt, and_self, if_true, size_run he, add_eq, Int.toNat_natCast]
/-- a part of a struct or an array -/
theorem part_sound {t : TypeId} {l : List AV} {xs : List Value} {o : Nat} (ht : tyOk P t = true) (hl : VRs μ l xs) (h1 : ∀ x ∈ xs, x.oneCell' = true)
    (hok : Ok (partV (aggT P t) (szOf P t) o l)) : ∃ z, (part t ⟨xs⟩ o).run P w = .ok z w ∧ VR μ (partV (aggT P t) (szOf P t) o l) z := by
  obtain ⟨d, hd⟩ := tyOk_inv ht
  have hag := isAgg_run (w := w) ht
  unfold partV at hok ⊢
  unfold part
  rw [Sem.run_bind, hag, Result.andThen_ok]
  cases ha : aggT P t with
  | true =>
    rw [ha] at hok
    rw [cV_true] at hok ⊢
    obtain ⟨h2, h3⟩ := aggV_ok hok
    rw [h3]
    rw [takeL_eq, dropL_eq] at h2 ⊢
    refine ⟨.agg ⟨(xs.drop o).take (szOf P t)⟩, ?_, .of_agg' ((hl.drop o).take _) (fun x hx => h1 x (List.mem_of_mem_drop (List.mem_of_mem_take hx))) h2⟩
    simp only [if_true, Sem.run_bind, size_run (und_info hd), Result.andThen_ok, Sem.run_pure]
    congr 2
    apply Array.ext'
    rw [Array.toList_extract, List.extract_eq_take_drop]
    simp
  | false =>
    rw [ha] at hok
    rw [cV_false] at hok ⊢
    obtain ⟨x, hx, hv⟩ := hl.nth hok
    refine ⟨x, ?_, hv⟩
    have hx' : (⟨xs⟩ : Array Value)[o]? = some x := by simpa using hx
    simp only [Bool.false_eq_true, if_false, hx', Sem.run_pure]
theorem fld_sound {s : TypeId} {i : Nat} {f : Field} {v : AV} {x : Value} (hf : fieldAt' P s i = some f) (ht : tyOk P f.type = true) (hv : VR μ v x)
    (hok : Ok (fldH (aggT P f.type) (szOf P f.type) f.offset v)) : ∃ z, (Instr.field s x i).run P w = .ok z w ∧ VR μ (fldH (aggT P f.type) (szOf P f.type) f.offset v) z := by
  unfold fldH at hok ⊢
  rw [ok_cV, beq_t] at hok
  obtain ⟨h1, h2⟩ := hok
  rw [show Nat.beq v.t 21 = true by simp [h1], cV_true]
  obtain ⟨xs, rfl, h3, h4, _, _⟩ := hv.inv_agg h1
  obtain ⟨fs, h5, h6⟩ := fieldAt_inv hf
  obtain ⟨z, h7, h8⟩ := part_sound (w := w) ht h3 h4 h2
  refine ⟨z, ?_, h8⟩
  unfold Instr.field asAgg
  simp only [Sem.run_bind, und_run h5, Result.andThen_ok, h6, Sem.run_pure, h7]
theorem ixArr_sound {t e : TypeId} {l : Nat} {v u : AV} {x y : Value} (ht : P.underlying t = some (.array l e)) (he : tyOk P e = true) (hv : VR μ v x) (hu : VR μ u y)
    (hok : Ok (ixArr (aggT P e) (szOf P e) l v u)) : ∃ z, (Instr.index t x y).run P w = .ok z w ∧ VR μ (ixArr (aggT P e) (szOf P e) l v u) z := by
  obtain ⟨d, hd⟩ := tyOk_inv he
  unfold ixArr at hok ⊢
  rw [ok_cV] at hok
  obtain ⟨h0, h00⟩ := hok
  rw [h0, cV_true]
  rw [bA_true, bA_true, beq_t, ble_t] at h0
  obtain ⟨h1, h2, h3⟩ := h0
  obtain ⟨k, n, rfl, hn⟩ := isN_inv hu h2
  rw [hn] at h3 h00 ⊢
  obtain ⟨xs, rfl, h4, h5, _, _⟩ := hv.inv_agg h1
  have h3' : n < l := h3
  obtain ⟨z, h7, h8⟩ := part_sound (w := w) he h4 h5 h00
  refine ⟨z, ?_, h8⟩
  have hlt : (0 : Int) ≤ (n : Int) ∧ (n : Int) < (l : Int) := by omega
  unfold Instr.index
  simp only [Sem.run_bind, asIntOf_run, Result.andThen_ok, und_run ht, hlt, and_self, if_true, size_run (und_info hd), Int.toNat_natCast]
  exact h7
theorem ixStr_sound {t : TypeId} {v u : AV} {x y : Value} (ht : P.underlying t = some .string) (hv : VR μ v x) (hu : VR μ u y)
    (hok : Ok (ixStr v u)) : ∃ z, (Instr.index t x y).run P w = .ok z w ∧ VR μ (ixStr v u) z := by
  unfold ixStr at hok ⊢
  rw [ok_cV] at hok
  obtain ⟨h0, h00⟩ := hok
  rw [h0, cV_true]
  rw [bA_true, bA_true, beq_t, ble_t] at h0
  obtain ⟨h1, h2, h3⟩ := h0
  obtain ⟨k, n, rfl, hn⟩ := isN_inv hu h2
  rw [hn] at h3 h00 ⊢
  obtain ⟨s, rfl, rfl⟩ := hv.inv_str h1
  have h3' : n < s.data.toList.length := h3
  have hsz : n < s.size := h3'
  refine ⟨.int .u8 (s.data.toList[n].toNat : Nat), ?_, ?_⟩
  · have hlt : (0 : Int) ≤ (n : Int) := by omega
    unfold Instr.index
    simp only [Sem.run_bind, asIntOf_run, Result.andThen_ok, und_run ht, hlt, if_true, Int.toNat_natCast, ByteArray.getElem?_lt' s n hsz, Sem.run_pure]
    rfl
  · show VR μ (intV 12 (Nat.add (byteAt (packB s.data.toList) n) 9223372036854775808)) _
    rw [byteAt_eq h3', intV_eq]
    exact .of_nat .u8 _

/-! ## Slices of slices -/
/-- a bound, and what it stands for -/
inductive BdR (μ : Mu) (df : Nat) : Bool → AV → Option Value → Nat → Prop
  | no (v : AV) : BdR μ df false v none df
  | yes (v : AV) (k : IntKind) (n : Nat) : BdR μ df true v (some (.int k n)) n
theorem bound_run (k : IntKind) (n y : Nat) (c : BoundsCode) (h : n ≤ y) : (Instr.sliceBound (.int k n) y c).run P w = .ok n w := by
  unfold Instr.sliceBound
  have : (0 : Int) ≤ (n : Int) ∧ (n : Int) ≤ (y : Int) := by omega
  simp only [Sem.run_bind, asIntOf_run, Result.andThen_ok, this, and_self, if_true, Sem.run_pure, Int.toNat_natCast]
theorem bounds_run {isS : Bool} {len cap l h m : Nat} {lo hi mx : Option Value} {b1 b2 b3 : Bool} {v1 v2 v3 : AV} (h1 : BdR μ 0 b1 v1 lo l) (h2 : BdR μ len b2 v2 hi h) (h3 : BdR μ cap b3 v3 mx m)
    (hlh : l ≤ h) (hhm : h ≤ m) (hmc : m ≤ cap) (hno : b3 = true → b2 = true) : (Instr.sliceBounds isS len cap lo hi mx).run P w = .ok (l, h, m) w := by
  unfold Instr.sliceBounds
  cases h3 with
  | no =>
    cases h2 with
    | no =>
      cases h1 with
      | no => simp
      | yes v k n => simp [bound_run _ _ _ _ hlh]
    | yes v k n =>
      cases h1 with
      | no => simp [bound_run _ _ _ _ hhm]
      | yes v k n => simp [bound_run _ _ _ _ hhm, bound_run _ _ _ _ hlh]
  | yes v k n =>
    cases h2 with
    | no => simp at hno
    | yes v k n =>
      cases h1 with
      | no => simp [bound_run _ _ _ _ hhm, bound_run _ _ _ _ hmc]
      | yes v k n => simp [bound_run _ _ _ _ hhm, bound_run _ _ _ _ hmc, bound_run _ _ _ _ hlh]

theorem bd_rel {d : Nat} {b : Bd d} {τ : QT d} {x : Option Value} (h : b.has = x.isSome) (hv : ∀ y, x = some y → Ok (b.g τ) → VR μ (b.g τ) y) (hok : bdOk b τ = true) (df : Nat) :
    BdR μ df b.has (b.g τ) x (bdN b τ df) := by
  unfold bdOk at hok
  unfold bdN
  cases x with
  | none => rw [show b.has = false from h]; exact .no _
  | some y =>
    have hb : b.has = true := h
    rw [hb] at hok ⊢
    rw [cT_true] at hok ⊢
    have hI : isI (b.g τ) = true := by unfold isN at hok; rw [bA_true] at hok; exact hok.1
    have hO : Ok (b.g τ) := by unfold isI at hI; rw [bA_true, ble_t, ble_t] at hI; exact Nat.le_trans hI.2 (by decide)
    obtain ⟨k, n, rfl, hn⟩ := isN_inv (hv y rfl hO) hok
    rw [hn]; exact .yes _ k n
theorem extract_list (s : ByteArray) (l h : Nat) : (s.extract l h).data.toList = (s.data.toList.drop l).take (h - l) := by
  obtain ⟨⟨x⟩⟩ := s
  rw [ByteArray.extract_mk]
theorem slS2_sound {s : ByteArray} {t : TypeId} {l h : Nat} {lo hi : Option Value} {b1 b2 : Bool} {v1 v2 : AV} (ht : P.underlying t = some .string)
    (h1 : BdR μ 0 b1 v1 lo l) (h2 : BdR μ s.data.toList.length b2 v2 hi h) (hok : Ok (slS2 (vStr s.data.toList.length (packB s.data.toList)) l h)) :
    ∃ z, (Instr.sliceAt t (.string s) lo hi none).run P w = .ok z w ∧ VR μ (slS2 (vStr s.data.toList.length (packB s.data.toList)) l h) z := by
  unfold slS2 at hok ⊢
  rw [ok_cV] at hok
  obtain ⟨h0, _⟩ := hok
  rw [h0, cV_true, strV_eq]
  rw [bA_true, ble_t, ble_t] at h0
  obtain ⟨h3, h4⟩ := h0
  have h4' : h ≤ s.data.toList.length := h4
  refine ⟨.string (s.extract l h), ?_, ?_⟩
  · unfold Instr.sliceAt Instr.slice
    have hb := bounds_run (P := P) (w := w) (isS := false) (len := s.size) (cap := s.size) (v3 := vX) h1 h2 (.no vX) h3 h4' (Nat.le_refl _) (by simp)
    simp only [Sem.run_bind, und_run ht, Result.andThen_ok, Option.isSome_none, Bool.false_eq_true, if_false, Sem.run_pure, hb]
  · show VR μ (vStr (h - l) (subStr (packB s.data.toList) l h)) _
    rw [subStr_eq]
    have := vr_str (μ := μ) (extract_list s l h)
    rw [show ((s.data.toList.drop l).take (h - l)).length = h - l by rw [List.length_take, List.length_drop]; omega] at this
    exact this
theorem slM_rel {s b o m l h cap : Nat} {mb : MB} (hb : μ b = some mb) (hok : Ok (slM s b o m l h)) :
    l ≤ h ∧ h ≤ m ∧ VR μ (slM s b o m l h) (.slice (some (if m = l then ⟨mb.c, o + mb.q, none⟩ else ⟨mb.c, o + mb.q + l * s, none⟩)) (h - l) (m - l)) := by
  unfold slM at hok ⊢
  rw [ok_cV] at hok
  obtain ⟨h0, _⟩ := hok
  rw [h0, cV_true]
  rw [bA_true, ble_t, ble_t] at h0
  refine ⟨h0.1, h0.2, ?_⟩
  show VR μ (vSl b _ (h - l) ((m - l) + 1)) _
  rw [cT_eq]
  by_cases e : m = l
  · subst e
    rw [if_pos rfl, if_pos (by simp)]
    exact .slK b o _ _ mb hb (by omega)
  · rw [if_neg e, if_neg (by simp; omega)]
    have := VR.slK (μ := μ) b (o + l * s) (h - l) (m - l) mb hb (by omega)
    rw [show o + l * s + mb.q = o + mb.q + l * s by omega] at this
    exact this
theorem sl_run {t e : TypeId} {x : Option Addr} {len cap l h m : Nat} {lo hi mx : Option Value} {b1 b2 b3 : Bool} {v1 v2 v3 : AV} (ht : P.underlying t = some (.slice e)) (he : infoOk P e = true)
    (h1 : BdR μ 0 b1 v1 lo l) (h2 : BdR μ len b2 v2 hi h) (h3 : BdR μ cap b3 v3 mx m) (hlh : l ≤ h) (hhm : h ≤ m) (hmc : m ≤ cap) (hno : b3 = true → b2 = true) :
    (Instr.sliceAt t (.slice x len cap) lo hi mx).run P w = .ok (.slice (if m = l then x else x.map (·.add (l * szOf P e))) (h - l) (m - l)) w := by
  unfold Instr.sliceAt Instr.slice
  have hb := bounds_run (P := P) (w := w) (isS := true) h1 h2 h3 hlh hhm hmc hno
  simp only [Sem.run_bind, und_run ht, Result.andThen_ok, Sem.run_pure, hb, size_run he]
theorem slH_sound {d : Nat} {t e : TypeId} {g : QT d → AV} {lo hi mx : Bd d} {τ : QT d} {x : Value} {xl xh xm : Option Value} (ht : P.underlying t = some (.slice e)) (he : 0 < szOf P e)
    (hH : HR μ H w) (hv : VR μ (g τ) x) (l1 : lo.has = xl.isSome) (l2 : hi.has = xh.isSome) (l3 : mx.has = xm.isSome)
    (v1 : ∀ y, xl = some y → Ok (lo.g τ) → VR μ (lo.g τ) y) (v2 : ∀ y, xh = some y → Ok (hi.g τ) → VR μ (hi.g τ) y) (v3 : ∀ y, xm = some y → Ok (mx.g τ) → VR μ (mx.g τ) y)
    (hno : xm.isSome = true → xh.isSome = true) (hok : Ok (slH (szOf P e) g lo hi mx τ H)) :
    ∃ z, (Instr.sliceAt t x xl xh xm).run P w = .ok z w ∧ VR μ (slH (szOf P e) g lo hi mx τ H) z := by
  have hinf := szOf_pos he
  unfold slH at hok ⊢
  rw [ok_cV] at hok
  obtain ⟨h0, h00⟩ := hok
  rw [h0, cV_true]
  rw [bA_true, bA_true] at h0
  obtain ⟨k1, k2, k3⟩ := h0
  have r1 := bd_rel l1 v1 k1
  have r2 := bd_rel l2 v2 k2
  have r3 := bd_rel l3 v3 k3
  have hno' : mx.has = true → hi.has = true := by rw [l2, l3]; exact hno
  rcases ok_cV' h00 with ⟨h1, h2, e1⟩ | ⟨h1, h2, e1⟩
  · rw [beq_t] at h1
    rw [e1]
    obtain ⟨m, off, cap, hm, rfl, _, hcap, hoff, hd⟩ := hv.inv_sl h1
    have capM_eq : capM (g τ) = if (g τ).d = 0 then (g τ).c else (g τ).d - 1 := by
      unfold capM
      cases hdd : (g τ).d with
      | zero => rfl
      | succ n => rfl
    unfold slSl at h2 ⊢
    rcases ok_cV' h2 with ⟨hM, h3, e2⟩ | ⟨hM, h3, e2⟩
    · rw [e2]
      rw [ok_cV] at h3
      obtain ⟨h4, h5⟩ := h3
      rw [h4, cV_true]
      rw [bA_true, ble_t, ble_t, Nat.add_eq, capM_eq] at h4
      obtain ⟨j1, j2, j3⟩ := slM_rel (cap := cap) hm h5
      have hmc : bdN mx τ 0 ≤ cap := by
        rcases hd with hd | hd
        · rw [if_neg (by omega)] at h4; omega
        · rw [if_pos hd.1] at h4; omega
      have hoff' : off = (g τ).b + m.q := by
        rcases hoff with hoff | hoff
        · exact hoff
        · omega
      subst hoff'
      have r3' : BdR μ cap mx.has (mx.g τ) xm (bdN mx τ 0) := by
        have := r3 cap
        unfold bdN at this ⊢
        rw [hM, cT_true] at this ⊢; exact this
      refine ⟨_, sl_run ht hinf (r1 0) (r2 (g τ).c) r3' j1 j2 hmc hno', ?_⟩
      simp only [Option.map_some, add_eq]
      split at j3
      · rename_i hh; rw [if_pos hh]; exact j3
      · rename_i hh; rw [if_neg hh]; exact j3
    · rw [e2]
      have r3' : BdR μ cap mx.has (mx.g τ) xm cap := by
        have := r3 cap
        unfold bdN at this
        rw [hM, cT_false] at this
        rw [hM]; exact this
      rcases ok_cV' h3 with ⟨hD, h4, e3⟩ | ⟨hD, h4, e3⟩
      · rw [e3]
        rw [beq_t] at hD
        unfold slU at h4 ⊢
        rw [ok_cV] at h4
        obtain ⟨h5, _⟩ := h4
        rw [h5, cV_true]
        rw [bA_true, bA_true, bA_true, ble_t, beq_t, beq_t] at h5
        obtain ⟨h5, h6, h7, h8⟩ := h5
        obtain ⟨c, ee, fr, q1, q2, q3, q4, q5, q6, q7, q8⟩ := hH.arr hm h6
        rw [h7] at q2 q3 q5
        have hd2 : (g τ).b + m.q + cap * m.s = m.z := by omega
        rw [← q2] at hd2
        have hhc : bdN hi τ (g τ).c ≤ cap := by
          rw [cT_eq] at h8
          split at h8
          · rename_i hh; rw [ble_t] at hh; omega
          · rw [ble_t, Nat.add_eq, Nat.mul_eq, Nat.mul_eq] at h8
            have h9 : bdN hi τ (g τ).c * szOf P e ≤ cap * szOf P e := by omega
            exact Nat.le_of_mul_le_mul_right h9 q3
        refine ⟨_, sl_run ht hinf (r1 0) (r2 (g τ).c) r3' h5 hhc (Nat.le_refl _) hno', ?_⟩
        show VR μ (vSl (g τ).a ((g τ).b + bdN lo τ 0 * szOf P e) (bdN hi τ (g τ).c - bdN lo τ 0) 0) _
        by_cases hcl : cap = bdN lo τ 0
        · rw [if_pos hcl, hcl, show bdN hi τ (g τ).c - bdN lo τ 0 = 0 by omega, Nat.sub_self]
          exact .slE _ _ _ m hm (by rw [← hcl]; omega)
        · rw [if_neg hcl]
          simp only [Option.map_some, add_eq]
          have hoff' : off = (g τ).b + m.q := by
            rcases hoff with hoff | hoff
            · exact hoff
            · omega
          subst hoff'
          have := VR.slU (μ := μ) (g τ).a ((g τ).b + bdN lo τ 0 * szOf P e) (bdN hi τ (g τ).c - bdN lo τ 0) (cap - bdN lo τ 0) m hm (by omega) (by
            rw [← q2, Nat.sub_mul]
            have : bdN lo τ 0 * szOf P e ≤ cap * szOf P e := Nat.mul_le_mul_right _ (by omega)
            omega)
          rw [show (g τ).b + bdN lo τ 0 * szOf P e + m.q = (g τ).b + m.q + bdN lo τ 0 * szOf P e by omega] at this
          exact this
      · rw [e3]
        have hD' : (g τ).d ≠ 0 := fun hh => by rw [hh] at hD; simp at hD
        have hcap' : (g τ).d = cap + 1 := by omega
        have hoff' : off = (g τ).b + m.q := by omega
        subst hoff'
        rw [hcap'] at h4 ⊢
        have e4 : Nat.sub (cap + 1) 1 = cap := rfl
        rw [e4] at h4 ⊢
        obtain ⟨j1, j2, j3⟩ := slM_rel (cap := cap) hm h4
        refine ⟨_, sl_run ht hinf (r1 0) (r2 (g τ).c) r3' j1 j2 (Nat.le_refl _) hno', ?_⟩
        simp only [Option.map_some, add_eq]
        split at j3
        · rename_i hh; rw [if_pos hh]; exact j3
        · rename_i hh; rw [if_neg hh]; exact j3
  · rw [ok_cV] at h2
    obtain ⟨h3, _⟩ := h2
    rw [e1, h3, cV_true]
    rw [bA_true, bA_true, bA_true, beq_t, beq_t, beq_t, beq_t] at h3
    obtain ⟨h3, h4, h5, h6⟩ := h3
    obtain ⟨rfl, _⟩ := hv.inv_nils h3
    have q1 := r1 0
    have q2 := r2 0
    have q3 := r3 0
    rw [h4] at q1
    rw [h5] at q2
    rw [h6] at q3
    refine ⟨_, sl_run ht hinf q1 q2 q3 (Nat.le_refl _) (Nat.le_refl _) (Nat.le_refl _) hno', ?_⟩
    simp only [if_true, Nat.sub_self]
    exact .nils
theorem slArr_sound {d : Nat} {t e : TypeId} {n : Nat} {g : QT d → AV} {lo hi mx : Bd d} {τ : QT d} {x : Value} {xl xh xm : Option Value} (ht : P.underlying t = some (.array n e)) (he : infoOk P e = true)
    (hv : VR μ (g τ) x) (l1 : lo.has = xl.isSome) (l2 : hi.has = xh.isSome) (l3 : mx.has = xm.isSome)
    (v1 : ∀ y, xl = some y → Ok (lo.g τ) → VR μ (lo.g τ) y) (v2 : ∀ y, xh = some y → Ok (hi.g τ) → VR μ (hi.g τ) y) (v3 : ∀ y, xm = some y → Ok (mx.g τ) → VR μ (mx.g τ) y)
    (hno : xm.isSome = true → xh.isSome = true) (hok : Ok (slArr (szOf P e) n g lo hi mx τ H)) :
    ∃ z, (Instr.sliceAt t x xl xh xm).run P w = .ok z w ∧ VR μ (slArr (szOf P e) n g lo hi mx τ H) z := by
  unfold slArr at hok ⊢
  rw [ok_cV] at hok
  obtain ⟨h0, h00⟩ := hok
  rw [h0, cV_true]
  rw [bA_true, bA_true, bA_true, bA_true, beq_t, ble_t] at h0
  obtain ⟨k0, k1, k2, k3, k4⟩ := h0
  have r1 := bd_rel l1 v1 k1 0
  have r2 := bd_rel l2 v2 k2 n
  have r3 := bd_rel l3 v3 k3 n
  have hno' : mx.has = true → hi.has = true := by rw [l2, l3]; exact hno
  obtain ⟨m, hm, rfl, _⟩ := hv.inv_ptr k0
  obtain ⟨j1, j2, j3⟩ := slM_rel (cap := n) hm h00
  refine ⟨_, ?_, j3⟩
  unfold Instr.sliceAt Instr.sureAddr
  have hb := bounds_run (P := P) (w := w) (isS := false) r1 r2 r3 j1 j2 k4 hno'
  simp only [Sem.run_bind, und_run ht, Result.andThen_ok, Sem.run_pure, hb, size_run he, add_eq]
end Go.Ev

/-! Proofs, part 8: boxes, structs, slices that are made. -/
namespace Go.Ev
set_option linter.unusedVariables false
set_option linter.unusedSimpArgs false
variable {μ : Mu} {P : Program} {w : World} {H : Heap} {ro : Nat}

/-- what stands for a new block -/
structure NewR (μ : Mu) (w : World) (ab : AB) (mk : Nat → AV) (x : Value) (o : Obj) (m : MB) : Prop where
  c : m.c = w.heap.size
  br : BR μ ab m o
  v : ∀ μ' b, μ' b = some m → VR μ' (mk b) x
theorem zero_inv {t : TypeId} (h : Ok (zeroA P t)) : ∃ i z, P.info? t = some i ∧ i.zero = some z ∧ zeroA P t = ofV z := by
  unfold zeroA at h ⊢
  split at h
  · rename_i i hi
    rw [hi]
    split at h
    · rename_i z hz; exact ⟨i, z, rfl, hz, by simp [hz]⟩
    · simp at h
  · simp at h
theorem zero_run {t : TypeId} (h : Ok (zeroA P t)) : ∃ z, (zeroValue t).run P w = .ok z w ∧ VR μ (zeroA P t) z := by
  obtain ⟨i, z, h1, h2, h3⟩ := zero_inv h
  refine ⟨z, by simp [zeroValue, typeInfo, h1, h2], ?_⟩
  rw [h3] at h ⊢
  exact ofV_rel z h
theorem cellsOk_ok {v : AV} {n : Nat} (h : cellsOk v n = true) : Ok v := by
  unfold cellsOk at h
  rw [cT_eq] at h
  split at h
  · rename_i h1; rw [beq_t] at h1; unfold Ok; omega
  · rw [bA_true, bA_true, ble_t] at h; exact h.2.1
theorem zeroCs_inv {t : TypeId} {s : Nat} {zs : List AV} (h : zeroCs P t = some (s, zs)) :
    s = szOf P t ∧ 0 < s ∧ zs.length = s ∧ infoOk P t = true ∧ ∀ (μ : Mu) (w : World), ∃ z xs, (zeroValue t).run P w = .ok z w ∧ z.cells = ⟨xs⟩ ∧ VRs μ zs xs ∧ (∀ y ∈ xs, y.oneCell' = true) ∧ xs.length = s := by
  unfold zeroCs at h
  rw [cT_eq] at h
  split at h
  · rename_i h1
    obtain ⟨rfl, rfl⟩ := by simpa using h
    have hp : 0 < szOf P t ∧ (cellsL (zeroA P t)).length = szOf P t := by
      obtain ⟨z, _, hz⟩ := zero_run (μ := fun _ => none) (w := (default : World)) (cellsOk_ok h1)
      obtain ⟨xs, _, _, _, _, h6, h7⟩ := cells_of hz h1
      exact ⟨h6, h7⟩
    refine ⟨rfl, hp.1, hp.2, szOf_pos hp.1, fun μ w => ?_⟩
    obtain ⟨z, hr, hz⟩ := zero_run (μ := μ) (w := w) (cellsOk_ok h1)
    obtain ⟨xs, h2, h3, h4, h5, _, _⟩ := cells_of hz h1
    exact ⟨z, xs, hr, h2, h3, h4, h5⟩
  · cases h
theorem row_new {n : Nat} {l : List AV} {xs : List Value} (e : TypeId) (hl : VRs μ l xs) (h1 : ∀ y ∈ xs, y.oneCell' = true) (hn : n = l.length) :
    NewR μ w (bRow n l) mkP (.pointer (some ⟨w.heap.size, 0, none⟩)) (.cells ⟨xs⟩ e) ⟨w.heap.size, 0, xs.length, 0⟩ :=
  ⟨rfl, .row rfl ⟨⟨_, e, rfl, rfl, rfl, hl, fun p _ hp => by simp at hp, h1⟩, hn⟩, fun μ' b hb => vr_ptr hb (by simp)⟩
theorem newRow_run (e : TypeId) (c : Array Value) : (newRow e c).run P w = .ok ⟨w.heap.size, 0, none⟩ (w.alloc (.cells c e)) := by
  unfold newRow
  simp only [Sem.run_bind, run_newObj, Result.andThen_ok, Sem.run_pure]
  rfl
theorem box_sound {e : TypeId} {v : AV} {x : Value} (hv : VR μ v x) (hok : (boxB v).t ≠ 0) :
    ∃ z o m, (Instr.box e x).run P w = .ok z (w.alloc o) ∧ NewR μ w (boxB v) mkP z o m := by
  unfold boxB at hok ⊢
  rw [cT_eq] at hok ⊢
  split at hok
  · rename_i h
    rw [if_pos h]
    obtain ⟨xs, h2, h3, h4, h5, _, h6⟩ := cells_of hv h
    refine ⟨_, _, _, ?_, row_new (n := cT (Nat.beq v.t 21) v.a 1) e h3 h4 h6.symm⟩
    unfold Instr.box newVar
    simp only [Sem.run_bind, newRow_run, Result.andThen_ok, Sem.run_pure, h2]
  · simp [bDead] at hok
theorem alloc_sound {t : TypeId} {s : Nat} {zs : List AV} (h : zeroCs P t = some (s, zs)) :
    ∃ z o m, (Instr.alloc t true (.tuple #[])).run P w = .ok z (w.alloc o) ∧ NewR μ w (bRow s zs) mkP z o m := by
  obtain ⟨_, _, h3, _, h4⟩ := zeroCs_inv h
  obtain ⟨z, xs, h5, h6, h7, h8, h9⟩ := h4 μ w
  refine ⟨_, _, _, ?_, row_new (n := s) t h7 h8 h3.symm⟩
  unfold Instr.alloc newVar
  simp only [Sem.run_bind, h5, Result.andThen_ok, newRow_run, Sem.run_pure, h6]

/-! ## Structs and arrays that are built -/
theorem foldl_spl (cs : Array Value) (o : Nat) : ∀ (vs : List Value), o + vs.length ≤ cs.size → (⟨vs⟩ : Array Value).zipIdx.foldl (fun cs (p : Value × Nat) => cs.setIfInBounds (o + p.2) p.1) cs = spl cs o vs := by
  have key : ∀ (vs : List Value) (i : Nat) (cs : Array Value), o + i + vs.length ≤ cs.size → (vs.zipIdx i).foldl (fun cs (p : Value × Nat) => cs.setIfInBounds (o + p.2) p.1) cs = spl cs (o + i) vs := by
    intro vs
    induction vs with
    | nil => intro i cs h; simp [spl_nil]
    | cons v vs ih =>
      intro i cs h
      rw [List.length_cons] at h
      simp only [List.zipIdx_cons, List.foldl_cons]
      rw [ih (i + 1) _ (by rw [Array.size_setIfInBounds]; omega), show o + (i + 1) = o + i + 1 by omega, spl_cons _ _ _ _ (by omega)]
  intro vs h
  have := key vs 0 cs (by omega)
  rw [← Array.foldl_toList, Array.toList_zipIdx]
  simpa using this
/-- parts, and what they stand for: place, size, value -/
inductive PtR (μ : Mu) {d : Nat} (τ : QT d) (n : Nat) (place : Nat → Option (Nat × Nat)) : List (Pt d) → List (Nat × Value) → Prop
  | nil : PtR μ τ n place [] []
  | cons {p : Pt d} {i : Nat} {x : Value} {ps : List (Pt d)} {xs : List (Nat × Value)} (hp : place i = some (p.o, p.s)) (hn : p.o + p.s ≤ n)
      (hv : Ok (p.g τ) → VR μ (p.g τ) x) (h : PtR μ τ n place ps xs) : PtR μ τ n place (p :: ps) ((i, x) :: xs)
theorem fill_sound {d : Nat} {τ : QT d} {n : Nat} {place : Nat → Option (Nat × Nat)} (hn0 : 0 < n) : ∀ (ps : List (Pt d)) (xs : List (Nat × Value)) (l : List AV) (c : Array Value), PtR μ τ n place ps xs →
    VRs μ l c.toList → c.size = n → (∀ y ∈ c.toList, y.oneCell' = true) → (fillL ps τ l).length = n →
    ∃ c', Instr.fill place c xs = some c' ∧ VRs μ (fillL ps τ l) c'.toList ∧ (∀ y ∈ c'.toList, y.oneCell' = true) := by
  intro ps xs l c h
  induction h generalizing l c with
  | nil => intro hl hc h1 _; exact ⟨c, rfl, hl, h1⟩
  | @cons p i x ps xs hp hn hv h ih =>
    intro hl hc h1 hlen
    have e : fillL (p :: ps) τ l = cL (cellsOk (p.g τ) p.s) (fillL ps τ (spliceL p.o (cellsL (p.g τ)) l)) [] := rfl
    rw [e] at hlen ⊢
    cases hco : cellsOk (p.g τ) p.s with
    | false => rw [hco, cL_false] at hlen; simp at hlen; omega
    | true =>
      rw [hco, cL_true] at hlen
      rw [cL_true]
      have hvr := hv (cellsOk_ok hco)
      obtain ⟨ys, k1, k2, k3, k4, _, k5⟩ := cells_of hvr hco
      have hsz : p.o + ys.length ≤ c.size := by omega
      have hll : l.length = c.size := by have := hl.1; simpa using this
      rw [spliceL_eq _ _ _ (by omega)] at hlen ⊢
      obtain ⟨c', j1, j2, j3⟩ := ih _ (spl c p.o ys) (hl.splice k2 p.o) (by rw [spl_size hsz]; exact hc)
        (fun y hy => by
          simp only [spl] at hy
          rw [List.mem_append, List.mem_append] at hy
          rcases hy with (hy | hy) | hy
          · exact h1 y (List.mem_of_mem_take hy)
          · exact k3 y hy
          · exact h1 y (List.mem_of_mem_drop hy)) hlen
      refine ⟨c', ?_, j2, j3⟩
      unfold Instr.fill
      rw [hp]
      have hxs : x.cells.size = p.s := by rw [k1]; exact k4
      have hcond : (decide (x.cells.size ≠ p.s) || decide (p.o + x.cells.size > c.size)) = false := by
        rw [hxs]; simp; omega
      simp only [hcond, Bool.false_eq_true, if_false]
      rw [k1]
      have := foldl_spl c p.o ys hsz
      rw [this]
      exact j1
theorem mapM_run {α β : Type} (f : α → Sem β) (g : α → β) (w : World) : ∀ l : List α, (∀ x ∈ l, (f x).run P w = .ok (g x) w) → (l.mapM f).run P w = .ok (l.map g) w
  | [], _ => rfl
  | x :: l, h => by
    rw [List.mapM_cons, Sem.run_bind, h x (by simp), Result.andThen_ok, Sem.run_bind, mapM_run f g w l fun y hy => h y (by simp [hy])]
    rfl
theorem amapM_run {α β : Type} (f : α → Sem β) (g : α → β) (w : World) (l : Array α) (h : ∀ x ∈ l.toList, (f x).run P w = .ok (g x) w) : (l.mapM f).run P w = .ok (l.map g) w := by
  rw [Array.mapM_eq_mapM_toList, Sem.run_map, mapM_run f g w _ h]
  show Result.ok (List.map g l.toList).toArray w = _
  congr 1
  apply Array.ext'
  simp
theorem build_sound {d : Nat} {t : TypeId} {ps : List (Pt d)} {τ : QT d} {xs : List (Nat × Value)} {place : Nat → Option (Nat × Nat)} (hz : (zeroA P t).t = 21)
    (h0 : (zeroA P t).a = 0 → ps = []) (hp : PtR μ τ (zeroA P t).a place ps xs)
    (hu : (∃ fs : Array Field, P.underlying t = some (.struct fs) ∧ (∀ f ∈ fs.toList, infoOk P f.type = true) ∧ place = fun i => (fs.map fun f => (f.offset, szOf P f.type))[i]?) ∨
      (∃ n e, P.underlying t = some (.array n e) ∧ infoOk P e = true ∧ place = fun i => some (i * szOf P e, szOf P e)))
    (hok : Ok (buildP (zeroA P t).a (zeroA P t).l ps τ H)) :
    ∃ z, (Instr.build t ⟨xs⟩).run P w = .ok z w ∧ VR μ (buildP (zeroA P t).a (zeroA P t).l ps τ H) z := by
  obtain ⟨z0, hz1, hz2⟩ := zero_run (P := P) (t := t) (μ := μ) (w := w) (by unfold Ok; omega)
  obtain ⟨ys, rfl, k2, k3, k4, _⟩ := hz2.inv_agg hz
  unfold buildP at hok ⊢
  obtain ⟨h1, h2⟩ := aggV_ok hok
  rw [h2]
  have hfill : ∃ c', Instr.fill place ⟨ys⟩ xs = some c' ∧ VRs μ (fillL ps τ (zeroA P t).l) c'.toList ∧ (∀ y ∈ c'.toList, y.oneCell' = true) := by
    rcases Nat.eq_zero_or_pos (zeroA P t).a with hz0 | hpos
    · have := h0 hz0
      subst this
      cases hp
      exact ⟨⟨ys⟩, rfl, k2, k3⟩
    · exact fill_sound hpos ps xs _ ⟨ys⟩ hp k2 (by have := k2.1; simp; omega) k3 h1
  obtain ⟨c', j1, j2, j3⟩ := hfill
  refine ⟨.agg c', ?_, .of_agg' j2 j3 h1⟩
  unfold Instr.build
  rw [Sem.run_bind, hz1, Result.andThen_ok]
  rcases hu with ⟨fs, u1, u2, rfl⟩ | ⟨n, e, u1, u2, rfl⟩
  · rw [Sem.run_bind, und_run u1, Result.andThen_ok]
    simp only
    rw [Sem.run_bind, amapM_run _ (fun f => (f.offset, szOf P f.type)) w fs (fun f hf => by
      rw [Sem.run_bind, size_run (u2 f hf)]; rfl), Result.andThen_ok]
    have j1' : Instr.fill (fun x => (fs.map fun f => (f.offset, szOf P f.type))[x]?) (Value.agg ⟨ys⟩).cells (⟨xs⟩ : Array (Nat × Value)).toList = some c' := j1
    rw [j1']
    rfl
  · rw [Sem.run_bind, und_run u1, Result.andThen_ok]
    simp only
    rw [Sem.run_bind, size_run u2, Result.andThen_ok]
    have j1' : Instr.fill (fun i => some (i * szOf P e, szOf P e)) (Value.agg ⟨ys⟩).cells (⟨xs⟩ : Array (Nat × Value)).toList = some c' := j1
    rw [j1']
    rfl

/-! ## Slices that are made -/
/-- one element, n times over -/
def rep (zero : Array Value) (n : Nat) : Array Value := (Array.range n).map (zero[· % zero.size]!)
theorem rep_size (zero : Array Value) (n : Nat) : (rep zero n).size = n := by simp [rep]
theorem rep_one {zero : Array Value} {n : Nat} (hz : 0 < zero.size) (h1 : ∀ y ∈ zero.toList, y.oneCell' = true) : ∀ y ∈ (rep zero n).toList, y.oneCell' = true := by
  intro y hy
  unfold rep at hy
  rw [Array.toList_map, List.mem_map] at hy
  obtain ⟨i, _, rfl⟩ := hy
  have hlt := Nat.mod_lt i hz
  rw [getElem!_pos zero _ hlt]
  exact h1 _ (by simp)
theorem rep_row {zero : Array Value} {n s i : Nat} (hs : zero.size = s) (h0 : 0 < s) (hi : i < n) : ((rep zero (n * s)).toList.drop (i * s)).take s = zero.toList := by
  have hi' : (i + 1) * s ≤ n * s := Nat.mul_le_mul_right _ hi
  rw [Nat.add_mul, Nat.one_mul] at hi'
  apply List.ext_getElem?
  intro k
  by_cases hk : k < s
  · rw [List.getElem?_take_of_lt hk, List.getElem?_drop]
    unfold rep
    rw [Array.toList_map, List.getElem?_map, Array.toList_range, List.getElem?_range (by omega)]
    simp only [Option.map_some]
    have hm : (i * s + k) % zero.size = k := by rw [hs, Nat.mul_comm, Nat.mul_add_mod, Nat.mod_eq_of_lt hk]
    rw [hm, getElem!_pos zero k (by omega)]
    simp [show k < zero.size by omega]
  · rw [List.getElem?_eq_none (by rw [List.length_take]; omega), List.getElem?_eq_none (by simp; omega)]
/-- rows of a tree, elements of a list of cells -/
def RowsR (μ : Mu) (n s : Nat) (zs : List AV) (t : HT (List AV)) (c : Array Value) (q : Nat) : Prop := ∀ i, i < n → VRs μ (htGet zs HD t i) ((c.toList.drop (q + i * s)).take s)
theorem arr_new {n s : Nat} {zs : List AV} {t : HT (List AV)} {c : Array Value} (e : TypeId) (fr : Nat × Nat) {mk : Nat → AV} {x : Value} {z : Nat} (hs : 0 < s) (hn : n < 1099511627776) (hz : z = c.size) (hc : n * s ≤ c.size) (hok : CellsOk c fr)
    (hr : RowsR μ n s zs t c 0) (hv : ∀ μ' b, μ' b = some ⟨w.heap.size, 0, z, s⟩ → VR μ' (mk b) x) :
    NewR μ w (bArr s n zs t) mk x (.cells c e fr) ⟨w.heap.size, 0, z, s⟩ :=
  ⟨rfl, .arr rfl ⟨⟨c, e, fr, rfl, rfl, hs, hz, by simpa [bArr] using hc, hok, fun i hi => by simpa [bArr] using hr i hi⟩, hn⟩, hv⟩
theorem slK_new {b n cap z s : Nat} {μ' : Mu} (hb : μ' b = some ⟨w.heap.size, 0, z, s⟩) (hn : n ≤ cap) : VR μ' (vSl b 0 n (cap + 1)) (.slice (some ⟨w.heap.size, 0, none⟩) n cap) := by
  have := VR.slK (μ := μ') b 0 n cap _ hb hn
  simpa using this
theorem slU_new {b n cap z s : Nat} {μ' : Mu} (hb : μ' b = some ⟨w.heap.size, 0, z, s⟩) (hn : n ≤ cap) (hz : cap * s = z) : VR μ' (vSl b 0 n 0) (.slice (some ⟨w.heap.size, 0, none⟩) n cap) := by
  have := VR.slU (μ := μ') b 0 n cap _ hb hn (by simpa using hz)
  simpa using this
theorem RowsR.spl {n s q : Nat} {zs vs : List AV} {t : HT (List AV)} {c : Array Value} {xs : List Value} {i : Nat} (h : RowsR μ n s zs t c q) (hv : VRs μ vs xs) (hx : xs.length = s) (hs : 0 < s) (hi : i < n) (hn : n ≤ 1099511627776)
    (hc : q + n * s ≤ c.size) : RowsR μ n s zs (htSet zs HD t i vs) (spl c (q + i * s) xs) q := by
  intro j hj
  have hi' : (i + 1) * s ≤ n * s := Nat.mul_le_mul_right _ hi
  have hj' : (j + 1) * s ≤ n * s := Nat.mul_le_mul_right _ hj
  rw [htGet_set _ _ _ _ _ (by omega) (by omega)]
  have := spl_elem (c := c) (q := q) (i := i) (j := j) (s := s) (r := 0) (vs := xs) (by omega) (by omega) (by omega) hs
  rw [Nat.add_zero] at this
  rw [this]
  by_cases hji : j = i
  · rw [if_pos hji, if_pos hji, List.take_zero, List.nil_append, List.drop_of_length_le (by rw [List.length_take]; omega), List.append_nil]
    exact hv
  · rw [if_neg hji, if_neg hji]; exact h j hj
/-- elements that are laid over an array -/
inductive EtR (μ : Mu) {d : Nat} (τ : QT d) (n : Nat) : List (Et d) → List (Nat × Value) → Prop
  | nil : EtR μ τ n [] []
  | cons {p : Et d} {x : Value} {ps : List (Et d)} {xs : List (Nat × Value)} (hn : p.i < n)
      (hv : Ok (p.g τ) → VR μ (p.g τ) x) (h : EtR μ τ n ps xs) : EtR μ τ n (p :: ps) ((p.i, x) :: xs)
theorem elems_sound {d : Nat} {τ : QT d} {n s : Nat} {zs : List AV} (hs : 0 < s) (hn : n ≤ 1099511627776) : ∀ (ps : List (Et d)) (xs : List (Nat × Value)) (t : HT (List AV)) (c : Array Value), EtR μ τ n ps xs →
    elOk s ps τ = true → RowsR μ n s zs t c 0 → c.size = n * s → (∀ y ∈ c.toList, y.oneCell' = true) →
    ∃ c', Instr.fill (fun i => some (i * s, s)) c xs = some c' ∧ RowsR μ n s zs (elems zs ps τ t) c' 0 ∧ c'.size = n * s ∧ (∀ y ∈ c'.toList, y.oneCell' = true) := by
  intro ps xs t c h
  induction h generalizing t c with
  | nil => intro _ hr hc h1; exact ⟨c, rfl, hr, hc, h1⟩
  | @cons p x ps xs hpn hv h ih =>
    intro hok hr hc h1
    have e1 : elOk s (p :: ps) τ = bA (cellsOk (p.g τ) s) (elOk s ps τ) := rfl
    have e2 : elems zs (p :: ps) τ t = elems zs ps τ (htSet zs HD t p.i (cellsL (p.g τ))) := rfl
    rw [e1, bA_true] at hok
    rw [e2]
    obtain ⟨ys, k1, k2, k3, k4, _, k5⟩ := cells_of (hv (cellsOk_ok hok.1)) hok.1
    have hi' : (p.i + 1) * s ≤ n * s := Nat.mul_le_mul_right _ hpn
    rw [Nat.add_mul, Nat.one_mul] at hi'
    have hsz : p.i * s + ys.length ≤ c.size := by omega
    have hr' := hr.spl k2 k4 hs hpn hn (by omega)
    rw [Nat.zero_add] at hr'
    obtain ⟨c', j1, j2, j3, j4⟩ := ih _ (spl c (p.i * s) ys) hok.2 hr' (by rw [spl_size hsz]; exact hc)
      (fun y hy => by
        simp only [spl] at hy
        rw [List.mem_append, List.mem_append] at hy
        rcases hy with (hy | hy) | hy
        · exact h1 y (List.mem_of_mem_take hy)
        · exact k3 y hy
        · exact h1 y (List.mem_of_mem_drop hy))
    refine ⟨c', ?_, j2, j3, j4⟩
    unfold Instr.fill
    have hxs : x.cells.size = s := by rw [k1]; exact k4
    have hcond : (decide (x.cells.size ≠ s) || decide (p.i * s + x.cells.size > c.size)) = false := by
      rw [hxs]; simp; omega
    simp only [hcond, Bool.false_eq_true, if_false]
    rw [k1]
    have := foldl_spl c (p.i * s) ys hsz
    rw [this]
    exact j1
theorem nocells (c : Array Value) (h1 : ∀ y ∈ c.toList, y.oneCell' = true) : CellsOk c (0, 0) := ⟨fun p _ hp => by simp at hp, h1⟩
theorem bslice_sound {d : Nat} {t e : TypeId} {s len : Nat} {zs : List AV} {ps : List (Et d)} {τ : QT d} {xs : List (Nat × Value)} (ht : P.underlying t = some (.slice e)) (hz : zeroCs P e = some (s, zs))
    (hl : len * s ≤ 16777216) (hp : EtR μ τ len ps xs) (hok : (bsliceB s len zs ps τ).t ≠ 0) :
    ∃ z o m, (Instr.buildSlice t len ⟨xs⟩).run P w = .ok z (w.alloc o) ∧ NewR μ w (bsliceB s len zs ps τ) (mkSl len) z o m := by
  unfold bsliceB at hok ⊢
  rw [cT_eq] at hok ⊢
  split at hok
  · rename_i hel
    rw [if_pos hel]
    obtain ⟨h1, h2, h3, h4, h5⟩ := zeroCs_inv hz
    obtain ⟨z0, zx, k1, k2, k3, k4, k5⟩ := h5 μ w
    have hlen : len ≤ 16777216 := Nat.le_trans (Nat.le_mul_of_pos_right _ h2) hl
    have hzs : (⟨zx⟩ : Array Value).size = s := k5
    have hr0 : RowsR μ len s zs .e (rep ⟨zx⟩ (len * s)) 0 := fun i hi => by
      rw [htGet_e, Nat.zero_add, rep_row hzs h2 hi]; exact k3
    obtain ⟨c', j1, j2, j3, j4⟩ := elems_sound h2 (by omega) ps xs .e (rep ⟨zx⟩ (len * s)) hp hel hr0 (rep_size _ _) (rep_one (by omega) k4)
    refine ⟨.slice (some ⟨w.heap.size, 0, none⟩) len len, .cells c' e (0, 0), ⟨w.heap.size, 0, c'.size, s⟩, ?_, arr_new e (0, 0) h2 (by omega) rfl (by omega) (nocells c' j4) j2 fun μ' b hb => slK_new hb (Nat.le_refl _)⟩
    unfold Instr.buildSlice
    rw [Sem.run_bind, und_run ht, Result.andThen_ok]
    simp only
    rw [Sem.run_bind, size_run h4, Result.andThen_ok, ← h1]
    have hg : ¬ (len * s > 2 ^ 24) := by omega
    simp only [hg, if_false]
    by_cases hz0 : len * s = 0
    · have hc0 : rep ⟨zx⟩ (len * s) = (Array.range (len * s)).map ((#[] : Array Value)[· % (#[] : Array Value).size]!) := by
        rw [hz0]; simp [rep]
      rw [hc0] at j1
      simp only [hz0, if_true, Sem.run_bind, Sem.run_pure, Result.andThen_ok] at j1 ⊢
      rw [j1]
      simp only [Sem.run_bind, newRow_run, Result.andThen_ok, Sem.run_pure]
    · simp only [hz0, if_false, Sem.run_bind, Sem.run_pure, Result.andThen_ok, k1, k2]
      have j1' : Instr.fill (fun i => some (i * s, s)) ((Array.range (len * s)).map fun x => (⟨zx⟩ : Array Value)[x % (⟨zx⟩ : Array Value).size]!) (⟨xs⟩ : Array (Nat × Value)).toList = some c' := j1
      rw [j1']
      simp only [Sem.run_bind, newRow_run, Result.andThen_ok, Sem.run_pure]
  · simp [bDead] at hok

/-- what has been done: a value, the world, the heap -/
def EffOK (ro : Nat) (μ : Mu) (H : Heap) (w : World) (r : Result Value) (k : KR) : Prop :=
  ∃ x w' μ' H' v, r = .ok x w' ∧ HR μ' H' w' ∧ Ext ro μ H w μ' H' w' ∧ VR μ' v x ∧ k v H' = .done
theorem EffOK.new (hH : HR μ H w) (hx : H.nx ≤ 65534) {ab : AB} {mk : Nat → AV} {x : Value} {o : Obj} {m : MB} {r : Result Value} {k : KR} (hr : r = .ok x (w.alloc o)) (hn : NewR μ w ab mk x o m)
    (hk : k (mk H.nx) (hnew H ab) = .done) : EffOK ro μ H w r k := by
  obtain ⟨g1, g2⟩ := hH.alloc (ro := ro) hx hn.c (hn.br.mono (Mu.put_le hH.none))
  exact ⟨x, _, _, _, _, hr, g1, g2, hn.v _ _ (by simp [Mu.put]), hk⟩
theorem EffOK.drew (hH : HR μ H w) {r : Result Value} {k : KR} (h : EffOK ro μ H w.drew r k) : EffOK ro μ H w r k := by
  obtain ⟨x, w', μ', H', v, h1, h2, h3, h4, h5⟩ := h
  exact ⟨x, w', μ', H', v, h1, h2, (Ext.drew ro μ H w).trans h3, h4, h5⟩
theorem wrap64 {n : Int} (h0 : 0 ≤ n) (h1 : n < 9223372036854775808) : IntKind.i64.wrap n = n := wrap_of (by rw [mm_min]; simp only; omega) (by rw [mm_max]; simp only; omega)
theorem bytes_of {t : TypeId} {i : TypeInfo} (h : P.info? t = some i) : P.bytesOf t = i.bytes := by simp [Program.bytesOf, h]
theorem mkSl_sound {d : Nat} {t e : TypeId} {s : Nat} {zs : List AV} {l c : QT d → AV} {τ : QT d} {x y : Value} {k : KR} (ht : P.underlying t = some (.slice e)) (hz : zeroCs P e = some (s, zs)) (hH : HR μ H w)
    (hl : Ok (l τ) → VR μ (l τ) x) (hc : Ok (c τ) → VR μ (c τ) y) (hok : mkSlH s (P.bytesOf e) zs l c τ H k = .done) :
    EffOK ro μ H w ((Instr.makeSlice t x y).run P w) k := by
  unfold mkSlH at hok
  rw [cA_done, hnewK_done] at hok
  obtain ⟨h0, hx, hk⟩ := hok
  unfold msOk at h0
  rw [bA_true, bA_true, bA_true, bA_true, ble_t, ble_t, ble_t, Nat.mul_eq] at h0
  obtain ⟨⟨h1, h2⟩, h3, h4, h5⟩ := h0
  have okI : ∀ v : AV, isN v = true → Ok v := fun v hv => by
    unfold isN isI at hv
    rw [bA_true, bA_true, ble_t, ble_t] at hv
    unfold Ok; omega
  obtain ⟨k1, n, rfl, hn⟩ := isN_inv (hl (okI _ h1)) h1
  obtain ⟨k2, m, rfl, hm⟩ := isN_inv (hc (okI _ h2)) h2
  rw [hn, hm] at h3
  rw [hm] at h4 h5
  rw [hn, hm] at hk
  obtain ⟨q1, q2, q3, q4, q5⟩ := zeroCs_inv hz
  obtain ⟨z0, zx, r1, r2, r3, r4, r5⟩ := q5 μ w
  obtain ⟨i, hi, _⟩ := infoOk_inv q4
  have hb := bytes_of hi
  have hzs : (⟨zx⟩ : Array Value).size = s := r5
  have hr0 : RowsR μ m s zs .e (rep ⟨zx⟩ (m * s)) 0 := fun j hj => by
    rw [htGet_e, Nat.zero_add, rep_row hzs q2 hj]; exact r3
  have w1 : IntKind.i64.wrap (n : Int) = n := wrap64 (by omega) (by omega)
  have w2 : IntKind.i64.wrap (m : Int) = m := wrap64 (by omega) (by omega)
  have hbig : ¬ ((i.bytes : Int) * (m : Int) > 2 ^ 48) := by
    rw [hb] at h4
    have : ((i.bytes * m : Nat) : Int) ≤ 281474976710656 := by omega
    rw [Int.natCast_mul] at this
    have e48 : (2 : Int) ^ 48 = 281474976710656 := by decide
    rw [e48]; omega
  refine EffOK.new (x := .slice (some ⟨w.heap.size, 0, none⟩) n m) (o := .cells (rep ⟨zx⟩ (m * s)) e) hH hx ?_
    (arr_new (mk := fun b => vSl b 0 n (m + 1)) e (0, 0) q2 (by omega) rfl (by rw [rep_size]; omega) (nocells _ (rep_one (by omega) r4)) hr0 fun μ' b hb => slK_new hb h3) hk
  unfold Instr.makeSlice
  have g1 : (decide ((m : Int) < 0) || decide ((i.bytes : Int) * (m : Int) > 2 ^ 48)) = false := by
    rw [Bool.or_eq_false_iff]; exact ⟨by simp, by simpa using hbig⟩
  have g2 : (decide ((n : Int) < 0)) = false := by simp
  have g3 : (decide ((n : Int) > (m : Int))) = false := by simp; omega
  simp only [Sem.run_bind, und_run ht, Result.andThen_ok, asInt, asIntOf_run, Sem.run_pure, typeInfo, run_program, hi, w1, w2, g1, g2, g3, Bool.or_false, Bool.false_eq_true, if_false, run_askRoom, size_run q4, ← q1, Int.toNat_natCast]
  by_cases hz0 : m * s = 0
  · have hc0 : rep ⟨zx⟩ (m * s) = (Array.range (m * s)).map ((#[] : Array Value)[· % (#[] : Array Value).size]!) := by
      rw [hz0]; simp [rep]
    rw [hc0]
    simp only [hz0, if_true]
    simp only [Sem.run_bind, Sem.run_pure, Result.andThen_ok, newRow_run]
  · simp only [hz0, if_false, Sem.run_bind, r1, Result.andThen_ok, Sem.run_pure, r2, newRow_run]
    rfl
end Go.Ev

/-! Proofs, part 9: append, copy, clear. -/
namespace Go.Ev
set_option linter.unusedVariables false
set_option linter.unusedSimpArgs false
variable {μ : Mu} {P : Program} {w : World} {H : Heap} {ro : Nat}

theorem putRows_succ (df : List AV) (f : Nat → List AV) (m i j : Nat) (t : HT (List AV)) : putRows df f (m + 1) i j t = putRows df f m (i + 1) (j + 1) (htSet df HD t i (f j)) := rfl
theorem putRows_get (df : List AV) (f : Nat → List AV) : ∀ (m i j : Nat) (t : HT (List AV)) (k : Nat), i + m ≤ 1099511627776 → k < 1099511627776 →
    htGet df HD (putRows df f m i j t) k = if i ≤ k ∧ k < i + m then f (j + (k - i)) else htGet df HD t k
  | 0, i, j, t, k, h1, h2 => by rw [if_neg (by omega)]; rfl
  | m + 1, i, j, t, k, h1, h2 => by
    rw [putRows_succ, putRows_get df f m (i + 1) (j + 1) _ k (by omega) h2, htGet_set _ _ _ _ _ (by omega) h2]
    by_cases hk : k = i
    · subst hk
      rw [if_neg (by omega), if_pos rfl, if_pos (by omega)]; simp
    · rw [if_neg hk]
      by_cases hk2 : i ≤ k ∧ k < i + (m + 1)
      · rw [if_pos (by omega), if_pos hk2]; congr 1; omega
      · rw [if_neg (by omega), if_neg hk2]
theorem spl_row {c : Array Value} {q j m s k : Nat} {L : List Value} (hL : L.length = m * s) (hc : q + (j + m) * s ≤ c.size) (hs : 0 < s) :
    ((spl c (q + j * s) L).toList.drop (q + k * s)).take s = if j ≤ k ∧ k < j + m then (L.drop ((k - j) * s)).take s else (c.toList.drop (q + k * s)).take s := by
  have hc' : q + j * s + m * s ≤ c.size := by rw [Nat.add_mul] at hc; omega
  have hsp := fun x => spl_get (c := c) (o := q + j * s) (vs := L) (by omega) x
  apply List.ext_getElem?
  intro x
  by_cases hx : x < s
  · rw [List.getElem?_take_of_lt hx, List.getElem?_drop, hsp, hL]
    by_cases hk : j ≤ k ∧ k < j + m
    · have h1 : j * s ≤ k * s := Nat.mul_le_mul_right _ hk.1
      have h2 : (k + 1) * s ≤ (j + m) * s := Nat.mul_le_mul_right _ hk.2
      rw [Nat.add_mul, Nat.one_mul, Nat.add_mul] at h2
      rw [if_neg (by omega), if_pos (by omega), if_pos hk, List.getElem?_take_of_lt hx, List.getElem?_drop, Nat.sub_mul]
      congr 1; omega
    · rw [if_neg hk, List.getElem?_take_of_lt hx, List.getElem?_drop]
      rcases Nat.lt_or_ge k j with h | h
      · have h1 : (k + 1) * s ≤ j * s := Nat.mul_le_mul_right _ h
        rw [Nat.add_mul, Nat.one_mul] at h1
        rw [if_pos (by omega)]
      · have h1 : (j + m) * s ≤ k * s := Nat.mul_le_mul_right _ (by omega)
        rw [Nat.add_mul] at h1
        rw [if_neg (by omega), if_neg (by omega)]
  · rw [List.getElem?_eq_none (by rw [List.length_take]; omega)]
    split <;> rw [List.getElem?_eq_none (by rw [List.length_take]; omega)]
/-- rows of a list of cells -/
structure RowsOf (μ : Mu) (P : Program) (w : World) (y : Value) (s n : Nat) (f : Nat → List AV) (L : List Value) : Prop where
  len : ∀ w' : World, (Builtin.lenOf y).run P w' = .ok n w'
  ln : L.length = n * s
  run : ∀ (w' : World) (j : Nat), w'.heap = w.heap → j ≤ n → (Builtin.firstCells s j y).run P w' = .ok ⟨L.take (j * s)⟩ w'
  row : ∀ i, i < n → VRs μ (f i) ((L.drop (i * s)).take s)
  one : ∀ v ∈ L, v.oneCell' = true
theorem take_drop_row (M : List Value) (a n s i : Nat) (hi : i < n) : ((((M.drop a).take (n * s)).drop (i * s)).take s) = (M.drop (a + i * s)).take s := by
  have : (i + 1) * s ≤ n * s := Nat.mul_le_mul_right _ hi
  rw [Nat.add_mul, Nat.one_mul] at this
  rw [List.drop_take, List.take_take, List.drop_drop, Nat.min_eq_left (by omega)]
theorem sl_rows {v : AV} {cap s off : Nat} {m : MB} (hH : HR μ H w) (hm : μ v.a = some m) (hoff : off = v.b + m.q) (hr : rowsIn (hget H v.a) s v.b v.c = true) :
    ∃ L, RowsOf μ P w (.slice (some ⟨m.c, off, none⟩) v.c cap) s v.c (rowAt (hget H v.a) (Nat.div v.b s)) L := by
  unfold rowsIn at hr
  rw [bA_true, bA_true, bA_true, beq_t, beq_t, beq_t, ble_t, Nat.add_eq] at hr
  obtain ⟨h1, h2, h3, h4⟩ := hr
  obtain ⟨c, e, fr, k1, k2, k3, k4, k5, k6, k7, k8⟩ := hH.arr hm h1
  rw [h2] at k2 k3 k5 k7
  have hdm : Nat.div v.b s * s = v.b := by
    have : s * (v.b / s) + v.b % s = v.b := Nat.div_add_mod v.b s
    have h3' : v.b % s = 0 := h3
    rw [h3', Nat.add_zero, Nat.mul_comm] at this; exact this
  have hle : (Nat.div v.b s + v.c) * s ≤ (hget H v.a).n * s := Nat.mul_le_mul_right _ h4
  rw [Nat.add_mul, hdm] at hle
  subst hoff
  refine ⟨(c.toList.drop (v.b + m.q)).take (v.c * s), fun w' => rfl, ?_, fun w' j hw hj => ?_, fun i hi => ?_, fun x hx => k6.2 x (List.mem_of_mem_drop (List.mem_of_mem_take hx))⟩
  · rw [List.length_take, List.length_drop, Array.length_toList]; omega
  · have hjs : j * s ≤ v.c * s := Nat.mul_le_mul_right _ hj
    have : (loadCells ⟨m.c, v.b + m.q, none⟩ (j * s)).run P w' = _ := loadCells_run (by rw [hw]; exact k1) (by omega)
    show (loadCells ⟨m.c, v.b + m.q, none⟩ (j * s)).run P w' = _
    rw [this, List.take_take, Nat.min_eq_left hjs]
  · rw [take_drop_row _ _ _ _ _ hi]
    have := k7 (Nat.div v.b s + i) (by omega)
    rw [Nat.add_mul, hdm, show m.q + (v.b + i * s) = v.b + m.q + i * s by omega] at this
    exact this
theorem none_rows (s : Nat) (f : Nat → List AV) : RowsOf μ P w (.slice none 0 0) s 0 f [] :=
  ⟨fun _ => rfl, by simp, fun w' j _ _ => by simp [Builtin.firstCells], fun i hi => by omega, fun v hv => by simp at hv⟩
theorem zero_rows (a : Addr) (cap s : Nat) (f : Nat → List AV) : RowsOf μ P w (.slice (some a) 0 cap) s 0 f [] :=
  ⟨fun _ => rfl, by simp, fun w' j _ hj => by
    have : j = 0 := by omega
    subst this
    simp [Builtin.firstCells, loadCells, loadCellsFrom], fun i hi => by omega, fun v hv => by simp at hv⟩
theorem str_rows (s : ByteArray) : RowsOf μ P w (.string s) 1 s.data.toList.length (strRow (packB s.data.toList)) (s.data.toList.map fun b => .int .u8 b.toNat) := by
  refine ⟨fun _ => rfl, by simp, fun w' j _ hj => ?_, fun i hi => ?_, fun v hv => ?_⟩
  · show Result.ok ((s.extract 0 j).data.map fun b => Value.int .u8 b.toNat) w' = _
    congr 1
    apply Array.ext'
    rw [Array.toList_map, extract_list]
    simp
  · have : ((s.data.toList.map fun b => Value.int .u8 (b.toNat : Int)).drop (i * 1)).take 1 = [.int .u8 (s.data.toList[i].toNat : Int)] := by
      rw [Nat.mul_one, List.drop_eq_getElem_cons (by simpa using hi)]
      simp
    rw [this]
    unfold strRow
    rw [byteAt_eq hi]
    exact .single (.of_nat .u8 _)
  · rw [List.mem_map] at hv
    obtain ⟨b, _, rfl⟩ := hv
    rfl
theorem rows_sound {s : Nat} {v : AV} {y : Value} {k : Nat → (Nat → List AV) → Ans} (hH : HR μ H w) (hv : VR μ v y) (hok : rowsOfK H s v k = .done) :
    ∃ n f L, RowsOf μ P w y s n f L ∧ k n f = .done := by
  unfold rowsOfK at hok
  rcases cA_cases hok with ⟨h1, hok⟩ | ⟨h1, hok⟩
  · rw [beq_t] at h1
    obtain ⟨m, off, cap, hm, rfl, _, hcap, hoff, _⟩ := hv.inv_sl h1
    rcases cA_cases hok with ⟨h2, hok⟩ | ⟨h2, hok⟩
    · rw [beq_t] at h2
      rw [h2]
      exact ⟨0, noRow, [], zero_rows _ _ _ _, hok⟩
    · unfold rows2 at hok
      rw [cA_done] at hok
      have hc0 : v.c ≠ 0 := fun e => by rw [e] at h2; simp at h2
      obtain ⟨L, hL⟩ := sl_rows (P := P) (cap := cap) (off := off) hH hm (by omega) hok.1
      exact ⟨_, _, L, hL, hok.2⟩
  · rcases cA_cases hok with ⟨h2, hok⟩ | ⟨h2, hok⟩
    · rw [beq_t] at h2
      obtain ⟨rfl, _⟩ := hv.inv_nils h2
      exact ⟨0, noRow, [], none_rows _ _, hok⟩
    · rw [tA_done, cA_done, beq_t] at hok
      obtain ⟨h3, rfl, hok⟩ := hok
      obtain ⟨s, rfl, rfl⟩ := hv.inv_str h3
      exact ⟨_, _, _, str_rows s, hok⟩
/-- rows are written into an array -/
theorem inPlace_sound {b m j : Nat} {f : Nat → List AV} {L : List Value} {mb : MB} {v : AV} {k : KR} (hH : HR μ H w) (hb : μ b = some mb) (hro : ro ≤ b) (ht : (hget H b).t = 2)
    (hL : L.length = m * (hget H b).s) (hf : ∀ i, i < m → VRs μ (f i) ((L.drop (i * (hget H b).s)).take (hget H b).s)) (h1 : ∀ v ∈ L, v.oneCell' = true)
    (hok : inPlace (hget H b) H b m f v k j = .done) :
    ∃ H' w', (storeCells ⟨mb.c, mb.q + j * (hget H b).s, none⟩ L).run P w = .ok () w' ∧ HR μ H' w' ∧ Ext ro μ H w μ H' w' ∧ k v H' = .done := by
  unfold inPlace at hok
  rw [cA_done, bA_true, ble_t, Nat.add_eq] at hok
  obtain ⟨⟨hjm, _⟩, hk⟩ := hok
  obtain ⟨c, e, fr, k1, k2, k3, k4, k5, k6, k7, k8⟩ := hH.arr hb ht
  have hle : (j + m) * (hget H b).s ≤ (hget H b).n * (hget H b).s := Nat.mul_le_mul_right _ hjm
  have hle2 := hle
  rw [Nat.add_mul] at hle2
  have hsz : mb.q + j * (hget H b).s + L.length ≤ c.size := by omega
  have hrun := storeCells_run (P := P) (cb := mb.c) (o := mb.q + j * (hget H b).s) L 0 c w k1 (by omega) k6.1 h1
  rw [Nat.add_zero] at hrun
  have hbr : BR μ (bArr (hget H b).s (hget H b).n (hget H b).l (putRows (hget H b).l f m j 0 (hget H b).e)) mb (.cells (spl c (mb.q + j * (hget H b).s) L) e fr) := by
    refine .arr rfl ⟨⟨_, e, fr, rfl, k2, k3, by rw [spl_size hsz]; exact k4, by rw [spl_size hsz]; exact k5, k6.spl hsz h1, fun i hi => ?_⟩, k8⟩
    have hi' : i < (hget H b).n := hi
    show VRs μ (htGet (hget H b).l HD (putRows (hget H b).l f m j 0 (hget H b).e) i) (((spl c (mb.q + j * (hget H b).s) L).toList.drop (mb.q + i * (hget H b).s)).take (hget H b).s)
    rw [putRows_get _ _ _ _ _ _ _ (by omega) (by omega), spl_row hL (by omega) k3]
    by_cases hij : j ≤ i ∧ i < j + m
    · rw [if_pos hij, if_pos hij, Nat.zero_add]
      exact hf _ (by omega)
    · rw [if_neg hij, if_neg hij]
      exact k7 i hi'
  obtain ⟨g1, g2⟩ := hH.set hb (by omega) hro hbr
  exact ⟨_, _, hrun, g1, g2, hk⟩
/-- the cells of a new array -/
theorem row_append {A B : List Value} {n s i : Nat} (hA : A.length = n * s) : ((A ++ B).drop (i * s)).take s = if i < n then (A.drop (i * s)).take s else (B.drop ((i - n) * s)).take s := by
  by_cases hi : i < n
  · have : (i + 1) * s ≤ n * s := Nat.mul_le_mul_right _ hi
    rw [Nat.add_mul, Nat.one_mul] at this
    rw [if_pos hi, List.drop_append_of_le_length (by omega), List.take_append_of_le_length (by rw [List.length_drop]; omega)]
  · have : n * s ≤ i * s := Nat.mul_le_mul_right _ (by omega)
    rw [if_neg hi, List.drop_append, List.drop_of_length_le (by omega), List.nil_append, hA, Nat.sub_mul]
theorem grown_rows {n m s : Nat} {df : List AV} {f : Nat → List AV} {t : HT (List AV)} {A B R : List Value} (hA : A.length = n * s) (hB : B.length = m * s) (hs : 0 < s) (hn : n + m ≤ 1099511627776)
    (hg : ∀ i, i < n → VRs μ (htGet df HD t i) ((A.drop (i * s)).take s)) (hf : ∀ i, i < m → VRs μ (f i) ((B.drop (i * s)).take s)) :
    RowsR μ (n + m) s df (putRows df f m n 0 t) ⟨A ++ B ++ R⟩ 0 := by
  intro i hi
  rw [putRows_get _ _ _ _ _ _ _ hn (by omega), Nat.zero_add, Nat.zero_add]
  show VRs μ _ (((A ++ B ++ R).drop (i * s)).take s)
  rw [List.append_assoc, row_append hA]
  by_cases hin : i < n
  · rw [if_neg (by omega), if_pos hin]
    exact hg i hin
  · rw [if_pos (by omega), if_neg hin, row_append hB, if_pos (by omega)]
    exact hf _ (by omega)
theorem old_rows {n s : Nat} {df : List AV} {g : Nat → List AV} {A : List Value} (hn : n ≤ 1099511627776) (hg : ∀ i, i < n → VRs μ (g i) ((A.drop (i * s)).take s)) :
    ∀ i, i < n → VRs μ (htGet df HD (putRows df g n 0 0 .e) i) ((A.drop (i * s)).take s) := by
  intro i hi
  rw [putRows_get _ _ _ _ _ _ _ (by omega) (by omega), if_pos (by omega)]
  simpa using hg i hi

theorem zeroCells_eq (z : Array Value) (n : Nat) : Builtin.zeroCells z n = rep z (n * z.size) := rfl
/-- a slice is handed on, with more elements in its place -/
theorem append_room {t t2 e ty : TypeId} {d2 : TypeDesc} {s n len cap : Nat} {a : Addr} {y : Value} {f : Nat → List AV} {L : List Value} {w' : World} (ht : P.underlying t = some (.slice e)) (ht2 : P.underlying t2 = some d2) (hd2 : ∀ k, d2 ≠ .int k)
    (he : infoOk P e = true) (hs : s = szOf P e) (hy : RowsOf μ P w y s n f L) (hn : len + n ≤ cap) (hr : (storeCells (a.add (len * s)) L).run P w = .ok () w') :
    (Builtin.append_ #[t, t2] ty #[.slice (some a) len cap, y]).run P w = .ok (.slice (some a) (len + n) cap) w' := by
  have hz : (match (generalizing := false) d2 with | .int _ => true | _ => false) = false := by
    cases d2 <;> first | rfl | (exact absurd rfl (hd2 _))
  have hf := hy.run w n rfl (Nat.le_refl _)
  rw [List.take_of_length_le (by rw [hy.ln]; exact Nat.le_refl _)] at hf
  unfold Builtin.append_
  simp only [List.getElem?_toArray, List.getElem?_cons_zero, List.getElem?_cons_succ, Sem.run_bind, und_run ht, Result.andThen_ok, size_run he, ← hs, und_run ht2, Sem.run_pure, hz, Bool.false_eq_true, if_false, hy.len, hn, if_true,
    Bool.not_false, hf, hr]
/-- .. in a new array -/
theorem append_grow {t t2 e ty : TypeId} {d2 : TypeDesc} {s n len cap : Nat} {x : Option Addr} {y : Value} {f : Nat → List AV} {L A : List Value} {zs : List AV} (ht : P.underlying t = some (.slice e)) (ht2 : P.underlying t2 = some d2) (hd2 : ∀ k, d2 ≠ .int k)
    (hzs : zeroCs P e = some (s, zs)) (hy : RowsOf μ P w y s n f L) (hn : cap < len + n) (hb : P.bytesOf e * (len + n) ≤ 70368744177664) (hA : ∀ w' : World, w'.heap = w.heap → (Builtin.firstCells s len (.slice x len cap)).run P w' = .ok ⟨A⟩ w')
    (hAl : A.length = len * s) (hA1 : ∀ v ∈ A, v.oneCell' = true) (hm : len + n ≤ 1099511627775) :
    ∃ (newCap : Nat) (R : List Value), len + n ≤ newCap ∧ (A ++ L ++ R).length = newCap * s ∧ (∀ v ∈ A ++ L ++ R, v.oneCell' = true) ∧
      (Builtin.append_ #[t, t2] ty #[.slice x len cap, y]).run P w = .ok (.slice (some ⟨w.drew.heap.size, 0, none⟩) (len + n) newCap) (w.drew.alloc (.cells ⟨A ++ L ++ R⟩ e)) := by
  obtain ⟨q1, q2, q3, q4, q5⟩ := zeroCs_inv hzs
  obtain ⟨z0, zx, r1, r2, r3, r4, r5⟩ := q5 μ w.drew
  obtain ⟨i, hi, _⟩ := infoOk_inv q4
  have hbo := bytes_of hi
  have hz : (match (generalizing := false) d2 with | .int _ => true | _ => false) = false := by
    cases d2 <;> first | rfl | (exact absurd rfl (hd2 _))
  have hf := hy.run w.drew n rfl (Nat.le_refl _)
  rw [List.take_of_length_le (by rw [hy.ln]; exact Nat.le_refl _)] at hf
  have hzsz : (⟨zx⟩ : Array Value).size = s := r5
  have hcap : len + n ≤ (Question.appendCap (len + n) cap e).cut (w.tape w.drawn (.appendCap (len + n) cap e)) := by simp [Question.cut]
  generalize hnc : (Question.appendCap (len + n) cap e).cut (w.tape w.drawn (.appendCap (len + n) cap e)) = newCap at hcap
  have hR : (rep ⟨zx⟩ ((newCap - (len + n)) * s)).toList.length = (newCap - (len + n)) * s := by rw [Array.length_toList, rep_size]
  refine ⟨newCap, (rep ⟨zx⟩ ((newCap - (len + n)) * s)).toList, hcap, ?_, ?_, ?_⟩
  · rw [List.length_append, List.length_append, hAl, hy.ln, hR, ← Nat.add_mul, ← Nat.add_mul]
    congr 1; omega
  · intro v hv
    rw [List.mem_append, List.mem_append] at hv
    rcases hv with (hv | hv) | hv
    · exact hA1 v hv
    · exact hy.one v hv
    · exact rep_one (by omega) r4 v hv
  · have g0 : ¬ (len + n ≤ cap) := by omega
    have g1 : ¬ (((len + n : Nat) : Int) > IntKind.i64.max ∧ (false = true ∨ i.bytes = 0)) := by
      rw [mm_max]; simp only; omega
    have g2 : ¬ (Builtin.nextslicecap (len + n) cap * i.bytes > 2 ^ 48) := by
      have := growslice_fits (need := len + n) (old := cap) (bytes := i.bytes) (by omega) (by rw [← hbo, Nat.mul_comm]; omega)
      have e48 : (2 : Nat) ^ 48 = 281474976710656 := by decide
      rw [e48]; omega
    have hch : (choose (.appendCap (len + n) cap e)).run P w = .ok newCap w.drew := by
      rw [run_choose, ← hnc]; rfl
    unfold Builtin.append_
    simp only [List.getElem?_toArray, List.getElem?_cons_zero, List.getElem?_cons_succ, Sem.run_bind, und_run ht, Result.andThen_ok, size_run q4, ← q1, und_run ht2, Sem.run_pure, hz, Bool.false_eq_true, if_false, hy.len, g0,
      Bool.not_false, if_true, typeInfo, run_program, hi, g2]
    rw [if_neg (by simpa using g1)]
    simp only [Sem.run_bind, Sem.run_pure, Result.andThen_ok, typeInfo, run_program, hi, g2, if_false, hch, run_askRoom, hA w.drew rfl, hf, r1, r2, newRow_run]
    have e1 : (⟨A⟩ : Array Value) ++ ⟨L⟩ ++ Builtin.zeroCells ⟨zx⟩ (newCap - (len + n)) = ⟨A ++ L ++ (rep ⟨zx⟩ ((newCap - (len + n)) * s)).toList⟩ := by
      rw [zeroCells_eq, hzsz]
      apply Array.ext'
      simp
    rw [e1]

theorem append_nil0 {t t2 e ty : TypeId} {d2 : TypeDesc} {s : Nat} {y : Value} {f : Nat → List AV} {L : List Value} (ht : P.underlying t = some (.slice e)) (ht2 : P.underlying t2 = some d2) (hd2 : ∀ k, d2 ≠ .int k)
    (he : infoOk P e = true) (hs : s = szOf P e) (hy : RowsOf μ P w y s 0 f L) :
    (Builtin.append_ #[t, t2] ty #[.slice none 0 0, y]).run P w = .ok (.slice none 0 0) w := by
  have hz : (match (generalizing := false) d2 with | .int _ => true | _ => false) = false := by
    cases d2 <;> first | rfl | (exact absurd rfl (hd2 _))
  have hf := hy.run w 0 rfl (Nat.le_refl _)
  unfold Builtin.append_
  simp only [List.getElem?_toArray, List.getElem?_cons_zero, List.getElem?_cons_succ, Sem.run_bind, und_run ht, Result.andThen_ok, size_run he, ← hs, und_run ht2, Sem.run_pure, hz, Bool.false_eq_true, if_false, hy.len, Nat.add_zero, Nat.le_refl, if_true,
    Bool.not_false, hf]
theorem VRs.len {l : List AV} {xs : List Value} (h : VRs μ l xs) : l.length = xs.length := h.1
theorem append_sound {t t2 e ty : TypeId} {d2 : TypeDesc} {s : Nat} {zs : List AV} {v u : AV} {x y : Value} {k : KR} (ht : P.underlying t = some (.slice e)) (ht2 : P.underlying t2 = some d2) (hd2 : ∀ k, d2 ≠ .int k)
    (hzs : zeroCs P e = some (s, zs)) (hH : HR μ H w) (hro : ro ≤ H.nx) (hv : VR μ v x) (hu : VR μ u y) (hok : appendH ro s (P.bytesOf e) zs v u H k = .done) :
    EffOK ro μ H w ((Builtin.append_ #[t, t2] ty #[x, y]).run P w) k := by
  obtain ⟨q1, q2, q3, q4, q5⟩ := zeroCs_inv hzs
  unfold appendH at hok
  obtain ⟨n, f, L, hy, hok⟩ := rows_sound (P := P) hH hu hok
  unfold app2 at hok
  rcases cA_cases hok with ⟨h1, hok2⟩ | ⟨h1, hok2⟩
  · clear hok
    have hok := hok2
    clear hok2
    rw [beq_t] at h1
    subst h1
    have hL : L = [] := List.eq_nil_of_length_eq_zero (by rw [hy.ln]; simp)
    subst hL
    rcases cA_cases hok with ⟨h2, hok⟩ | ⟨h2, hok⟩
    · rw [beq_t] at h2
      obtain ⟨m, off, cap, hm, rfl, _, hcap, hoff, _⟩ := hv.inv_sl h2
      exact ⟨_, w, μ, H, v, append_room ht ht2 hd2 q4 q1 hy (by omega) rfl, hH, .refl _ _ _ _, hv, hok⟩
    · rw [tA_done] at hok
      obtain ⟨rfl, _⟩ := hv.inv_nils hok.1
      exact ⟨_, w, μ, H, v, append_nil0 ht ht2 hd2 q4 q1 hy, hH, .refl _ _ _ _, hv, hok.2⟩
  · clear hok
    have hok := hok2
    clear hok2
    have hn0 : n ≠ 0 := fun e => by rw [e] at h1; simp at h1
    -- a new array
    have fresh : ∀ {len cap : Nat} {x : Option Addr} {A : List Value} {df : List AV} {T : HT (List AV)} {μ0 : Mu} {H0 : Heap}, μ.le μ0 → HR μ0 H0 w → Ext ro μ H w μ0 H0 w → cap < len + n → P.bytesOf e * (len + n) ≤ 70368744177664 →
        (∀ w' : World, w'.heap = w.heap → (Builtin.firstCells s len (.slice x len cap)).run P w' = .ok ⟨A⟩ w') → A.length = len * s → (∀ v ∈ A, v.oneCell' = true) → len + n ≤ 1099511627775 →
        (∀ i, i < len → VRs μ (htGet df HD T i) ((A.drop (i * s)).take s)) → H0.nx ≤ 65534 → k (vSl H0.nx 0 (len + n) 0) (hnew H0 (bArr s (len + n) df (putRows df f n len 0 T))) = .done →
        EffOK ro μ H w ((Builtin.append_ #[t, t2] ty #[.slice x len cap, y]).run P w) k := by
      intro len cap x A df T μ0 H0 hle hH0 hE hn hb hA hAl hA1 hm hT hx hk
      obtain ⟨newCap, R, r1, r2, r3, r4⟩ := append_grow (ty := ty) ht ht2 hd2 hzs hy hn hb hA hAl hA1 hm
      have hrows : RowsR μ0 (len + n) s df (putRows df f n len 0 T) ⟨A ++ L ++ R⟩ 0 := fun i hi => (grown_rows (R := R) hAl hy.ln q2 (by omega) hT hy.row i hi).mono hle
      have hcs : (⟨A ++ L ++ R⟩ : Array Value).size = newCap * s := r2
      have hle2 : (len + n) * s ≤ newCap * s := Nat.mul_le_mul_right _ r1
      have hnew : NewR μ0 w.drew (bArr s (len + n) df (putRows df f n len 0 T)) (fun b => vSl b 0 (len + n) 0) (.slice (some ⟨w.drew.heap.size, 0, none⟩) (len + n) newCap) (.cells ⟨A ++ L ++ R⟩ e) ⟨w.drew.heap.size, 0, newCap * s, s⟩ :=
        arr_new (w := w.drew) e (0, 0) q2 (by omega) hcs.symm (by omega) (nocells _ r3) hrows fun μ' b hb => slU_new (w := w.drew) hb r1 rfl
      obtain ⟨g1, g2⟩ := hH0.drew.alloc (ro := ro) hx hnew.c (hnew.br.mono (Mu.put_le hH0.none))
      exact ⟨_, _, _, _, _, r4, g1, hE.trans ((Ext.drew ro μ0 H0 w).trans g2), hnew.v _ _ (by simp [Mu.put]), hk⟩
    rcases cA_cases hok with ⟨h2, hok⟩ | ⟨h2, hok⟩
    · rw [beq_t] at h2
      unfold app3 at hok
      rw [cA_done, bA_true, bA_true, ble_t, ble_t, Nat.mul_eq, Nat.add_eq] at hok
      obtain ⟨⟨p1, p2, p3⟩, hok⟩ := hok
      obtain ⟨m, off, cap, hm, rfl, hveq, hcap, hoff, hd⟩ := hv.inv_sl h2
      have p2' := p2
      unfold rowsIn at p2'
      rw [bA_true, bA_true, bA_true, beq_t, beq_t, beq_t, ble_t, Nat.add_eq] at p2'
      obtain ⟨t1, t2', t3, t4⟩ := p2'
      obtain ⟨c, ee, fr, k1, k2, k3, k4, k5, k6, k7, k8⟩ := hH.arr hm t1
      rw [t2'] at k2 k3 k5
      have hdm : Nat.div v.b s * s = v.b := by
        have : s * (v.b / s) + v.b % s = v.b := Nat.div_add_mod v.b s
        have h3' : v.b % s = 0 := t3
        rw [h3', Nat.add_zero, Nat.mul_comm] at this; exact this
      -- writing in place
      have store : ∀ {v' : AV} {j : Nat}, off = v.b + m.q → v.c + n ≤ cap → j = Nat.div v.b s + v.c → VR μ v' (.slice (some ⟨m.c, off, none⟩) (v.c + n) cap) → inPlace (hget H v.a) H v.a n f v' k j = .done →
          EffOK ro μ H w ((Builtin.append_ #[t, t2] ty #[.slice (some ⟨m.c, off, none⟩) v.c cap, y]).run P w) k := by
        intro v' j ho hc hj hv' hk
        obtain ⟨H', w', z1, z2, z3, z4⟩ := inPlace_sound (P := P) (ro := ro) hH hm p1 t1 (by rw [t2']; exact hy.ln) (fun i hi => by rw [t2']; exact hy.row i hi) hy.one hk
        refine ⟨_, w', μ, H', v', append_room (w' := w') ht ht2 hd2 q4 q1 hy hc ?_, z2, z3, hv'.mono (Mu.le_refl μ), z4⟩
        rw [add_eq, ho, show v.b + m.q + v.c * s = m.q + j * (hget H v.a).s by rw [hj, t2', Nat.add_mul, hdm]; omega]
        exact z1
      have oldRows : v.c = 0 ∨ ∃ A, RowsOf μ P w (.slice (some ⟨m.c, off, none⟩) v.c cap) s v.c (rowAt (hget H v.a) (Nat.div v.b s)) A := by
        by_cases hc0 : v.c = 0
        · exact .inl hc0
        · exact .inr (sl_rows hH hm (by omega) p2)
      have old : ∃ A, RowsOf μ P w (.slice (some ⟨m.c, off, none⟩) v.c cap) s v.c (rowAt (hget H v.a) (Nat.div v.b s)) A := by
        rcases oldRows with h | h
        · rw [h]; exact ⟨[], zero_rows _ _ _ _⟩
        · exact h
      obtain ⟨A, hA⟩ := old
      have hAr : ∀ w' : World, w'.heap = w.heap → (Builtin.firstCells s v.c (.slice (some ⟨m.c, off, none⟩) v.c cap)).run P w' = .ok ⟨A⟩ w' := fun w' hw => by
        have := hA.run w' v.c hw (Nat.le_refl _)
        rwa [List.take_of_length_le (by rw [hA.ln]; exact Nat.le_refl _)] at this
      rcases cA_cases hok with ⟨h3, hok⟩ | ⟨h3, hok⟩
      · rw [beq_t] at h3
        have hz : v.b + m.q + cap * m.s = m.z := by omega
        rw [← k2] at hz
        unfold growU at hok
        rcases cA_cases hok with ⟨h4, hok⟩ | ⟨h4, hok⟩
        · rw [ble_t, Nat.add_eq, Nat.add_eq] at h4
          have h5 : (Nat.div v.b s + v.c + n) * s ≤ (hget H v.a).n * s := Nat.mul_le_mul_right _ h4
          rw [show Nat.div v.b s + v.c + n = Nat.div v.b s + (v.c + n) by omega, Nat.add_mul, hdm] at h5
          have h6 : (v.c + n) * s ≤ cap * s := by omega
          have h7 : v.c + n ≤ cap := Nat.le_of_mul_le_mul_right h6 q2
          have hoff' : off = v.b + m.q := by omega
          subst hoff'
          exact store rfl h7 rfl (.slU v.a v.b (v.c + n) cap m hm h7 (by rw [← k2]; exact hz)) hok
        · unfold growU2 at hok
          rw [cA_done, bA_true, ble_t, Nat.add_eq] at hok
          obtain ⟨⟨g1, _⟩, hok⟩ := hok
          obtain ⟨kl1, kl2⟩ := hH.kill hm (by omega) p1
          -- the tree
          have tree : ∃ df T, (∀ i, i < v.c → VRs μ (htGet df HD T i) ((A.drop (i * s)).take s)) ∧ H.nx ≤ 65534 ∧ k (vSl H.nx 0 (v.c + n) 0) (hnew (hset H v.a bDead) (bArr s (v.c + n) df (putRows df f n v.c 0 T))) = .done := by
            rcases cA_cases hok with ⟨g2, hok⟩ | ⟨g2, hok⟩
            · rw [beq_t] at g2
              rw [hnewK_done] at hok
              refine ⟨(hget H v.a).l, (hget H v.a).e, fun i hi => ?_, hok.1, hok.2⟩
              have := hA.row i hi
              unfold rowAt at this
              rw [g2, Nat.add_eq, Nat.zero_add] at this
              exact this
            · rw [cA_done, hnewK_done] at hok
              exact ⟨zs, _, old_rows (by omega) hA.row, hok.2.1, hok.2.2⟩
          obtain ⟨df, T, hT, hx, hk⟩ := tree
          by_cases hfit : v.c + n ≤ cap
          · -- in place, after all
            have hoff' : off = v.b + m.q := by omega
            subst hoff'
            have h6 : (v.c + n) * s ≤ cap * s := Nat.mul_le_mul_right _ hfit
            rw [Nat.add_mul] at h6
            have hsz : v.b + m.q + v.c * s + L.length ≤ c.size := by rw [hy.ln]; omega
            have hrun := storeCells_run (P := P) (cb := m.c) (o := v.b + m.q + v.c * s) L 0 c w k1 (by omega) k6.1 hy.one
            rw [Nat.add_zero] at hrun
            have hxr : (hset H v.a bDead).nx ≤ 65534 := hx
            have hdead : (hget (hset H v.a bDead) v.a).t = 0 := by
              rw [hget_hset _ _ _ _ (hH.lt hm) (hH.lt hm), if_pos rfl]; rfl
            have hothers : ∀ b' m', μ b' = some m' → (hget (hset H v.a bDead) b').t ≠ 0 → m'.c ≠ m.c := by
              intro b' m' hb' hl hc
              rw [hget_hset _ _ _ _ (hH.lt hm) (hH.lt hb')] at hl
              by_cases e1 : b' = v.a
              · rw [if_pos e1] at hl; simp [bDead] at hl
              · rw [if_neg e1] at hl
                exact e1 (hH.inj b' v.a m' m hb' hm hl (by omega) hc)
            have hbr : BR (μ.put (hset H v.a bDead).nx ⟨m.c, v.b + m.q, m.z, m.s⟩) (bArr s (v.c + n) df (putRows df f n v.c 0 T)) ⟨m.c, v.b + m.q, m.z, m.s⟩ (.cells (spl c (v.b + m.q + v.c * s) L) ee fr) := by
              refine (BR.arr rfl ⟨⟨_, ee, fr, rfl, k2, q2, by rw [spl_size hsz]; exact k4, by rw [spl_size hsz]; show v.b + m.q + (v.c + n) * s ≤ _; rw [Nat.add_mul]; omega, k6.spl hsz hy.one, fun i hi => ?_⟩, by show v.c + n < _; omega⟩ : BR μ _ _ _).mono (Mu.put_le kl1.none)
              have hi' : i < v.c + n := hi
              show VRs μ (htGet df HD (putRows df f n v.c 0 T) i) (((spl c (v.b + m.q + v.c * s) L).toList.drop (v.b + m.q + i * s)).take s)
              rw [putRows_get _ _ _ _ _ _ _ (by omega) (by omega), spl_row hy.ln (by rw [Nat.add_mul]; omega) q2]
              by_cases hij : v.c ≤ i ∧ i < v.c + n
              · rw [if_pos hij, if_pos hij, Nat.zero_add]; exact hy.row _ (by omega)
              · rw [if_neg hij, if_neg hij]
                have h9 := k7 (Nat.div v.b s + i) (by omega)
                have h10 := hT i (by omega)
                have e3 : (A.drop (i * s)).take s = (c.toList.drop (v.b + m.q + i * s)).take s := by
                  have hlen : v.b + m.q + v.c * s ≤ c.size := by omega
                  have : A = (c.toList.drop (v.b + m.q)).take (v.c * s) := by
                    have r1 := hAr w rfl
                    have r2 : (loadCells ⟨m.c, v.b + m.q, none⟩ (v.c * s)).run P w = .ok ⟨(c.toList.drop (v.b + m.q)).take (v.c * s)⟩ w := loadCells_run k1 hlen
                    have r3 : (loadCells ⟨m.c, v.b + m.q, none⟩ (v.c * s)).run P w = .ok ⟨A⟩ w := r1
                    rw [r2] at r3
                    injection r3 with r3
                    injection r3 with r3
                    exact r3.symm
                  rw [this, take_drop_row _ _ _ _ _ (by omega)]
                rw [e3] at h10
                exact h10
            obtain ⟨a1, a2⟩ := kl1.again (ro := ro) hxr hro hm hdead hothers (fun b' m' hb' _ hl => hothers b' m' hb' hl) (m := ⟨m.c, v.b + m.q, m.z, m.s⟩) rfl hbr
            refine ⟨_, _, _, _, vSl H.nx 0 (v.c + n) 0, append_room ht ht2 hd2 q4 q1 hy hfit (by rw [add_eq]; exact hrun), a1, kl2.trans a2, ?_, hk⟩
            have := VR.slU (μ := μ.put (hset H v.a bDead).nx ⟨m.c, v.b + m.q, m.z, m.s⟩) H.nx 0 (v.c + n) cap ⟨m.c, v.b + m.q, m.z, m.s⟩ (by simp [Mu.put]) hfit (by simp only; rw [← k2]; omega)
            simpa using this
          · exact fresh (Mu.le_refl μ) kl1 kl2 (by omega) p3 hAr hA.ln hA.one g1 hT hx hk
      · have hd' : v.d ≠ 0 := fun e => by rw [e] at h3; simp at h3
        have hdc : v.d = cap + 1 := by omega
        have hoff' : off = v.b + m.q := by omega
        rw [hdc] at hok
        have e4 : Nat.sub (cap + 1) 1 = cap := rfl
        rw [e4] at hok
        rcases cA_cases hok with ⟨h4, hok⟩ | ⟨h4, hok⟩
        · rw [ble_t] at h4
          subst hoff'
          exact store rfl h4 rfl (.slK v.a v.b (v.c + n) cap m hm h4) hok
        · have h5 : ¬ (v.c + n ≤ cap) := fun e => by rw [show Nat.ble (v.c + n) cap = true by rw [ble_t]; exact e] at h4; cases h4
          unfold newFrom at hok
          rw [cA_done, bA_true, ble_t, hnewK_done, Nat.add_eq] at hok
          obtain ⟨⟨j1, _⟩, j2, j3⟩ := hok
          exact fresh (Mu.le_refl μ) hH (.refl _ _ _ _) (by omega) p3 hAr hA.ln hA.one j1 (old_rows (by omega) hA.row) j2 j3
    · rw [tA_done, cA_done, ble_t, Nat.mul_eq] at hok
      obtain ⟨h3, h4, hok⟩ := hok
      obtain ⟨rfl, _⟩ := hv.inv_nils h3
      unfold newFrom at hok
      rw [cA_done, bA_true, ble_t, hnewK_done, Nat.add_eq] at hok
      obtain ⟨⟨j1, _⟩, j2, j3⟩ := hok
      exact fresh (A := []) (Mu.le_refl μ) hH (.refl _ _ _ _) (by omega) (by rw [Nat.zero_add]; exact h4) (fun w' _ => rfl) (by simp) (by simp) j1 (fun i hi => by omega) j2 j3

/-! ## copy, clear -/
theorem min_eq (m n : Nat) : minN m n = Nat.min m n := by unfold minN; rw [cT_eq]; split <;> (rename_i h; simp at h; simp [Nat.min_def]; omega)
theorem RowsOf.fewer {y : Value} {s n n' : Nat} {f : Nat → List AV} {L : List Value} (h : RowsOf μ P w y s n f L) (hn : n' ≤ n) :
    (L.take (n' * s)).length = n' * s ∧ (∀ i, i < n' → VRs μ (f i) (((L.take (n' * s)).drop (i * s)).take s)) ∧ ∀ v ∈ L.take (n' * s), v.oneCell' = true := by
  have hle : n' * s ≤ n * s := Nat.mul_le_mul_right _ hn
  refine ⟨by rw [List.length_take, h.ln]; omega, fun i hi => ?_, fun v hv => h.one v (List.mem_of_mem_take hv)⟩
  have := take_drop_row L 0 n' s i hi
  rw [List.drop_zero, Nat.zero_add] at this
  rw [this]; exact h.row i (by omega)
theorem copy_sound {t t2 e ty : TypeId} {s : Nat} {zs : List AV} {v u : AV} {x y : Value} {k : KR} (ht : P.underlying t = some (.slice e))
    (hzs : zeroCs P e = some (s, zs)) (hH : HR μ H w) (hv : VR μ v x) (hu : VR μ u y) (hok : copyH ro s v u H k = .done) (ats : Array TypeId) (ha : ats[0]? = some t) :
    EffOK ro μ H w ((Builtin.copy_ ats ty #[x, y]).run P w) k := by
  obtain ⟨q1, q2, q3, q4, q5⟩ := zeroCs_inv hzs
  unfold copyH at hok
  obtain ⟨n, f, L, hy, hok⟩ := rows_sound (P := P) hH hu hok
  unfold cpy1 at hok
  have vnat : ∀ z : Nat, VR μ (vNat 11 z) (goInt z) := fun z => .of_nat .i64 z
  rcases cA_cases hok with ⟨h1, hok2⟩ | ⟨h1, hok2⟩
  · rw [beq_t] at h1
    obtain ⟨m, off, cap, hm, rfl, hveq, hcap, hoff, hd⟩ := hv.inv_sl h1
    obtain ⟨e1, e2, e3⟩ := hy.fewer (n' := minN n v.c) (by rw [min_eq]; exact Nat.min_le_left _ _)
    have hf := hy.run w (minN n v.c) rfl (by rw [min_eq]; exact Nat.min_le_left _ _)
    have hrun : ∀ w' : World, (storeCells ⟨m.c, off, none⟩ (L.take (minN n v.c * s))).run P w = .ok () w' →
        (Builtin.copy_ ats ty #[.slice (some ⟨m.c, off, none⟩) v.c cap, y]).run P w = .ok (goInt (minN n v.c)) w' := fun w' hst => by
      unfold Builtin.copy_
      rw [ha]
      rw [min_eq] at hf hst ⊢
      simp only [List.getElem?_toArray, List.getElem?_cons_zero, List.getElem?_cons_succ, Sem.run_bind, und_run ht, Result.andThen_ok, hy.len, size_run q4, ← q1, hf, hst, Sem.run_pure]
    rcases cA_cases hok2 with ⟨h2, hok3⟩ | ⟨h2, hok3⟩
    · rw [beq_t] at h2
      have hL0 : L.take (minN n v.c * s) = [] := by rw [h2]; simp
      refine ⟨_, w, μ, H, _, hrun w (by rw [hL0]; rfl), hH, .refl _ _ _ _, vnat _, ?_⟩
      rw [h2]; exact hok3
    · unfold cpy2 at hok3
      rw [cA_done, bA_true, ble_t] at hok3
      obtain ⟨⟨p1, p2⟩, hok3⟩ := hok3
      unfold rowsIn at p2
      rw [bA_true, bA_true, bA_true, beq_t, beq_t, beq_t, ble_t, Nat.add_eq] at p2
      obtain ⟨t1, t2', t3, t4⟩ := p2
      have hdm : Nat.div v.b s * s = v.b := by
        have : s * (v.b / s) + v.b % s = v.b := Nat.div_add_mod v.b s
        have h3' : v.b % s = 0 := t3
        rw [h3', Nat.add_zero, Nat.mul_comm] at this; exact this
      have hc0 : v.c ≠ 0 := fun e => by rw [min_eq, e] at h2; simp at h2
      have hoff' : off = v.b + m.q := by omega
      subst hoff'
      obtain ⟨H', w', z1, z2, z3, z4⟩ := inPlace_sound (P := P) (ro := ro) hH hm p1 t1 (by rw [t2']; exact e1) (fun i hi => by rw [t2']; exact e2 i hi) e3 hok3
      rw [t2', hdm, show m.q + v.b = v.b + m.q by omega] at z1
      exact ⟨_, w', μ, H', _, hrun w' z1, z2, z3, vnat _, z4⟩
  · rw [tA_done] at hok2
    obtain ⟨rfl, _⟩ := hv.inv_nils hok2.1
    have hf := hy.run w 0 rfl (Nat.zero_le _)
    refine ⟨goInt 0, w, μ, H, _, ?_, hH, .refl _ _ _ _, vnat 0, hok2.2⟩
    unfold Builtin.copy_
    rw [ha]
    simp only [List.getElem?_toArray, List.getElem?_cons_zero, List.getElem?_cons_succ, Sem.run_bind, und_run ht, Result.andThen_ok, hy.len, size_run q4, ← q1, Nat.min_zero, hf, Sem.run_pure]
    rfl
theorem clear_sound {t e ty : TypeId} {s : Nat} {zs : List AV} {v : AV} {x : Value} {k : KR} (ht : P.underlying t = some (.slice e))
    (hzs : zeroCs P e = some (s, zs)) (hH : HR μ H w) (hv : VR μ v x) (hok : clearH ro s zs v H k = .done) (ats : Array TypeId) (ha : ats[0]? = some t) :
    EffOK ro μ H w ((Builtin.clear_ ats ty #[x]).run P w) k := by
  obtain ⟨q1, q2, q3, q4, q5⟩ := zeroCs_inv hzs
  obtain ⟨z0, zx, r1, r2, r3, r4, r5⟩ := q5 μ w
  unfold clearH at hok
  rcases cA_cases hok with ⟨h1, hok2⟩ | ⟨h1, hok2⟩
  · rw [beq_t] at h1
    obtain ⟨rfl, _⟩ := hv.inv_nils h1
    refine ⟨.tuple #[], w, μ, H, _, ?_, hH, .refl _ _ _ _, .undef, hok2⟩
    unfold Builtin.clear_
    rw [ha]
    simp only [List.getElem?_toArray, List.getElem?_cons_zero, Sem.run_bind, und_run ht, Result.andThen_ok, Sem.run_pure]
  · rw [tA_done] at hok2
    obtain ⟨h2, hok2⟩ := hok2
    obtain ⟨m, off, cap, hm, rfl, hveq, hcap, hoff, hd⟩ := hv.inv_sl h2
    rcases cA_cases hok2 with ⟨h3, hok3⟩ | ⟨h3, hok3⟩
    · rw [beq_t] at h3
      refine ⟨.tuple #[], w, μ, H, _, ?_, hH, .refl _ _ _ _, .undef, hok3⟩
      unfold Builtin.clear_
      rw [ha, h3]
      simp only [List.getElem?_toArray, List.getElem?_cons_zero, Sem.run_bind, und_run ht, Result.andThen_ok, Sem.run_pure]
    · rw [cA_done, bA_true, ble_t] at hok3
      obtain ⟨⟨p1, p2⟩, hok3⟩ := hok3
      unfold rowsIn at p2
      rw [bA_true, bA_true, bA_true, beq_t, beq_t, beq_t, ble_t, Nat.add_eq] at p2
      obtain ⟨t1, t2', t3, t4⟩ := p2
      have hdm : Nat.div v.b s * s = v.b := by
        have : s * (v.b / s) + v.b % s = v.b := Nat.div_add_mod v.b s
        have h3' : v.b % s = 0 := t3
        rw [h3', Nat.add_zero, Nat.mul_comm] at this; exact this
      have hc0 : v.c ≠ 0 := fun e => by rw [e] at h3; simp at h3
      have hoff' : off = v.b + m.q := by omega
      subst hoff'
      have hzs' : (⟨zx⟩ : Array Value).size = s := r5
      obtain ⟨H', w', z1, z2, z3, z4⟩ := inPlace_sound (P := P) (ro := ro) (L := (rep ⟨zx⟩ (v.c * s)).toList) hH hm p1 t1 (by rw [t2', Array.length_toList, rep_size])
        (fun i hi => by rw [t2', rep_row hzs' q2 hi]; exact r3) (rep_one (by omega) r4) hok3
      rw [t2', hdm, show m.q + v.b = v.b + m.q by omega] at z1
      refine ⟨.tuple #[], w', μ, H', _, ?_, z2, z3, .undef, z4⟩
      have hcc : ∃ c', v.c = c' + 1 := ⟨v.c - 1, by omega⟩
      obtain ⟨c', hc'⟩ := hcc
      unfold Builtin.clear_
      rw [ha]
      rw [hc'] at z1 ⊢
      simp only [List.getElem?_toArray, List.getElem?_cons_zero, Sem.run_bind, und_run ht, Result.andThen_ok, r1, r2, zeroCells_eq, hzs', z1, Sem.run_pure]
end Go.Ev

/-! Proofs, part 10: conversions, maps, iterators. -/
namespace Go.Ev
set_option linter.unusedVariables false
set_option linter.unusedSimpArgs false
variable {μ : Mu} {P : Program} {w : World} {H : Heap} {ro : Nat}

/-! ## Strings and bytes -/
theorem freeze_new (w : World) (C : Array Value) (e : TypeId) : ((w.alloc (.cells C e)).freeze ⟨w.heap.size, C.size, none⟩ 1) = w.alloc (.cells C e (C.size, C.size + 1)) := by
  unfold World.freeze World.alloc
  rw [if_neg (by omega)]
  congr 1
  apply Array.ext_getElem?
  intro i
  rw [Array.getElem?_modify, Array.getElem?_push, Array.getElem?_push]
  by_cases hi : w.heap.size = i
  · subst hi
    simp
  · have : ¬ i = w.heap.size := fun h => hi h.symm
    simp only [hi, this, if_false]
theorem cvSB_sound {e : TypeId} {v : AV} {x : Value} {k : KR} (hH : HR μ H w) (hv : VR μ v x) (hok : cvSB v H k = .done) :
    ∃ s, x = .string s ∧ EffOK ro μ H w ((Conv.stringToBytes e s).run P w) k := by
  unfold cvSB at hok
  rw [tA_done, cA_done, hnewK_done, ble_t] at hok
  obtain ⟨h1, h2, hx, hk⟩ := hok
  obtain ⟨s, rfl, rfl⟩ := hv.inv_str h1
  refine ⟨s, rfl, ?_⟩
  have hn : s.data.toList.length ≤ 1099511627775 := h2
  have hss : s.size = s.data.toList.length := rfl
  have hcap : s.size ≤ (Question.appendCap s.size 0 e).cut (w.tape w.drawn (.appendCap s.size 0 e)) := by simp [Question.cut]
  generalize hnc : (Question.appendCap s.size 0 e).cut (w.tape w.drawn (.appendCap s.size 0 e)) = cap at hcap
  have hch : (choose (.appendCap s.size 0 e)).run P w = .ok cap w.drew := by rw [run_choose, ← hnc]; rfl
  let L : List Value := s.data.toList.map fun b => .int .u8 b.toNat
  let C : Array Value := ⟨L ++ List.replicate (cap - s.size) (.int .u8 0)⟩
  have hC : C.size = cap := by
    show (L ++ List.replicate (cap - s.size) (Value.int .u8 0)).length = cap
    rw [List.length_append, List.length_replicate, List.length_map]; omega
  have hone : ∀ y ∈ C.toList, y.oneCell' = true := by
    intro y hy
    have hy' : y ∈ L ++ List.replicate (cap - s.size) (Value.int .u8 0) := hy
    rw [List.mem_append] at hy'
    rcases hy' with h | h
    · obtain ⟨b, _, rfl⟩ := List.mem_map.1 h; rfl
    · rw [(List.mem_replicate.1 h).2]; rfl
  have hrows : RowsR μ s.data.toList.length 1 [vNat 12 0] (putRows [vNat 12 0] (strRow (packB s.data.toList)) s.data.toList.length 0 0 .e) C 0 := by
    intro i hi
    rw [putRows_get _ _ _ _ _ _ _ (by omega) (by omega), if_pos (by omega)]
    have := (str_rows (μ := μ) (P := P) (w := w) s).row i hi
    show VRs μ _ ((((L ++ List.replicate (cap - s.size) (Value.int .u8 0)) : List Value).drop (0 + i * 1)).take 1)
    rw [Nat.zero_add, List.drop_append_of_le_length (by rw [List.length_map]; omega), List.take_append_of_le_length (by rw [List.length_drop, List.length_map]; omega)]
    simpa using this
  -- the mark behind the bytes
  have hfrz : ((w.drew.alloc (.cells C e)).freeze ⟨w.drew.heap.size, C.size, none⟩ 1) = w.drew.alloc (.cells C e (C.size, C.size + 1)) := freeze_new w.drew C e
  have hok' : CellsOk C (C.size, C.size + 1) := ⟨fun p hp hh => by simp only at hh; omega, hone⟩
  have hnew : NewR μ w.drew (bArr 1 s.data.toList.length [vNat 12 0] (putRows [vNat 12 0] (strRow (packB s.data.toList)) s.data.toList.length 0 0 .e)) (mkUn s.data.toList.length)
      (.slice (some ⟨w.drew.heap.size, 0, none⟩) s.size cap) (.cells C e (C.size, C.size + 1)) ⟨w.drew.heap.size, 0, cap, 1⟩ :=
    arr_new (w := w.drew) e _ (by omega) (by omega) hC.symm (by omega) hok' hrows fun μ' b hb => slU_new (w := w.drew) hb hcap (by omega)
  refine EffOK.drew hH (EffOK.new (w := w.drew) hH.drew hx ?_ hnew hk)
  unfold Conv.stringToBytes markStringish
  have hsh : (w.drew.alloc (.cells C e)).shape? w.drew.heap.size = some (e, C.size) := by
    simp only [World.shape?, alloc_get, if_true]
  have hel : (s.data.map fun b => Value.int .u8 (b.toNat : Int)) ++ Array.replicate (cap - s.size) (Value.int .u8 0) = C := by
    apply Array.ext'
    simp [C, L]
  simp only [Sem.run_bind, hch, Result.andThen_ok, hel, newRow_run, run_shape]
  rw [hsh]
  simp only [run_freeze, Result.andThen_ok, Sem.run_pure, hfrz]
theorem bytesN_s (f : Nat → List AV) (n : Nat) : bytesN f (n + 1) = bytesS f (bytesN f n) := rfl
theorem bytesS_eq (f : Nat → List AV) (ih : Nat → Nat → Nat) (j acc : Nat) : bytesS f ih j acc = ih (Nat.succ j) (bAcc (nthV 0 (f j)) j acc) := rfl
theorem bAcc_eq {v : AV} {b j acc : Nat} (h : nOf v = b) : bAcc v j acc = acc + b * 256 ^ j := by
  unfold bAcc
  rw [h, Nat.add_eq, Nat.mul_eq, Nat.mul_eq, Nat.pow_eq, pow8]
theorem bytesN_eq : ∀ (n : Nat) (f : Nat → List AV) (j acc : Nat) (bs : List UInt8), bs.length = n → (∀ i b, bs[i]? = some b → nOf (nthV 0 (f (j + i))) = b.toNat) →
    bytesN f n j acc = acc + packB bs * 256 ^ j
  | 0, f, j, acc, bs, hb, hf => by
    have : bs = [] := List.eq_nil_of_length_eq_zero hb
    subst this
    show acc = _
    simp [packB]
  | n + 1, f, j, acc, b :: bs, hb, hf => by
    have h0 := hf 0 b (by simp)
    rw [Nat.add_zero] at h0
    have e : packB bs * 256 ^ (j + 1) = 256 * packB bs * 256 ^ j := by
      rw [Nat.pow_succ, Nat.mul_comm (256 ^ j) 256, ← Nat.mul_assoc, Nat.mul_comm (packB bs) 256]
    have ih := bytesN_eq n f (j + 1) (acc + b.toNat * 256 ^ j) bs (by simpa using hb) (fun i c hi => by
      have := hf (i + 1) c (by simpa using hi)
      rwa [show j + (i + 1) = j + 1 + i by omega] at this)
    rw [bytesN_s, bytesS_eq, bAcc_eq h0, ih, packB_cons, e, Nat.add_mul, Nat.add_assoc]
  | n + 1, f, j, acc, [], hb, hf => by simp at hb
theorem okBytes_eq : ∀ (n : Nat) (f : Nat → List AV) (j : Nat), okBytes f n j = true → ∀ i, i < n → (f (j + i)).length = 1 ∧ byteOk (nthV 0 (f (j + i))) = true
  | 0, f, j, h, i, hi => by omega
  | n + 1, f, j, h, i, hi => by
    have h' : bA (lenIs 1 (f j)) (bA (byteOk (nthV 0 (f j))) (okBytes f n (j + 1))) = true := h
    rw [bA_true, bA_true, lenIs_eq] at h'
    cases i with
    | zero => exact ⟨h'.1, h'.2.1⟩
    | succ i =>
      have := okBytes_eq n f (j + 1) h'.2.2 i (by omega)
      rwa [show j + 1 + i = j + (i + 1) by omega] at this
theorem toBytes : ∀ (vs : List Value) (bs : List UInt8), vs = bs.map (fun b => Value.int .u8 b.toNat) → ∀ (s : ByteArray) (w : World),
    (forIn vs s fun (c : Value) (r : ByteArray) => (match c with
      | .int .u8 n => pure (ForInStep.yield (r.push (UInt8.ofNat n.toNat)))
      | x => do
        stuck "bytesToString: byte expected"
        pure (ForInStep.yield r) : Sem (ForInStep ByteArray))).run P w = .ok ⟨⟨s.data.toList ++ bs⟩⟩ w
  | vs, [], h, s, w => by subst h; simp
  | vs, b :: bs, h, s, w => by
    subst h
    rw [List.map_cons, List.forIn_cons, Sem.run_bind]
    simp only [Sem.run_pure, Result.andThen_ok]
    rw [toBytes _ bs rfl]
    congr 3
    have : UInt8.ofNat ((b.toNat : Int).toNat) = b := by simp
    rw [this]
    show (s.push b).data.toList ++ bs = _
    simp [ByteArray.push]
theorem byteOk_inv {v : AV} {x : Value} (hv : VR μ v x) (h : byteOk v = true) : ∃ b : UInt8, x = .int .u8 b.toNat ∧ nOf v = b.toNat := by
  unfold byteOk at h
  rw [bA_true, bA_true, beq_t, ble_t, ble_t] at h
  obtain ⟨h1, h2, h3⟩ := h
  obtain ⟨n, hn, rfl, rfl⟩ := hv.inv_int (k := .u8) h1
  have h2' : 9223372036854775808 ≤ biasI n := h2
  have h4 := bias_pos h2'
  have h3' : biasI n ≤ 9223372036854776063 := h3
  have h5 : n ≤ 255 := by unfold biasI at h3'; omega
  have e : (UInt8.ofNat n.toNat).toNat = n.toNat := by
    rw [UInt8.toNat_ofNat', Nat.mod_eq_of_lt (by omega)]
  refine ⟨UInt8.ofNat n.toNat, by rw [e, Int.toNat_of_nonneg h4], ?_⟩
  rw [e]
  show Nat.sub (biasI n) 9223372036854775808 = _
  rw [Nat.sub_eq, bias_sub h4]
theorem cvBS_sound {v : AV} {x : Value} (hH : HR μ H w) (hv : VR μ v x) (hok : Ok (cvBS v H)) :
    ∃ z, (Conv.bytesToString x).run P w = .ok z w ∧ VR μ (cvBS v H) z := by
  unfold cvBS at hok ⊢
  rcases ok_cV' hok with ⟨h1, h2, e⟩ | ⟨h1, h2, e⟩
  · rw [beq_t] at h1
    obtain ⟨rfl, _⟩ := hv.inv_nils h1
    rw [e]
    exact ⟨.string .empty, rfl, vr_str (l := []) (s := .empty) rfl⟩
  · rw [e]
    rw [ok_cV] at h2
    obtain ⟨h3, _⟩ := h2
    rw [h3, cV_true, strV_eq]
    rw [bA_true, bA_true, beq_t] at h3
    obtain ⟨h3, h4, h5⟩ := h3
    obtain ⟨m, off, cap, hm, rfl, hveq, hcap, hoff, hd⟩ := hv.inv_sl h3
    have hb := okBytes_eq _ _ _ h5
    have hrows : v.c = 0 ∨ ∃ L, RowsOf μ P w (.slice (some ⟨m.c, off, none⟩) v.c cap) 1 v.c (rowAt (hget H v.a) (Nat.div v.b 1)) L := by
      by_cases hc0 : v.c = 0
      · exact .inl hc0
      · exact .inr (sl_rows hH hm (by omega) h4)
    rcases hrows with h0 | ⟨L, hL⟩
    · rw [h0]
      refine ⟨.string .empty, ?_, ?_⟩
      · simp [Conv.bytesToString, loadCells, loadCellsFrom]
      · show VR μ (vStr 0 (bytesN _ 0 0 0)) _
        exact vr_str (l := []) (s := .empty) rfl
    · have hdiv : Nat.div v.b 1 = v.b := Nat.div_one v.b
      rw [hdiv] at hL
      have hLl : L.length = v.c := by have := hL.ln; omega
      -- the bytes
      have hbytes : ∃ bs : List UInt8, L = bs.map (fun b => Value.int .u8 b.toNat) ∧ ∀ i (h : i < bs.length), nOf (nthV 0 (rowAt (hget H v.a) v.b i)) = bs[i].toNat := by
        have key : ∀ i, i < v.c → ∃ b : UInt8, L[i]? = some (.int .u8 b.toNat) ∧ nOf (nthV 0 (rowAt (hget H v.a) v.b i)) = b.toNat := by
          intro i hi
          have hr := hL.row i hi
          have hbi := hb i hi
          rw [Nat.zero_add] at hbi
          have hOk : Ok (nthV 0 (rowAt (hget H v.a) v.b i)) := by
            have := hbi.2
            unfold byteOk at this
            rw [bA_true, beq_t] at this
            unfold Ok; omega
          obtain ⟨x, hx, hxv⟩ := hr.nth hOk
          rw [Nat.mul_one, List.getElem?_take_of_lt (by omega), List.getElem?_drop, Nat.add_zero] at hx
          obtain ⟨b, rfl, e2⟩ := byteOk_inv hxv hbi.2
          exact ⟨b, hx, e2⟩
        have : ∀ n, n ≤ v.c → ∃ bs : List UInt8, bs.length = n ∧ L.take n = bs.map (fun b => Value.int .u8 b.toNat) ∧ ∀ i (h : i < bs.length), nOf (nthV 0 (rowAt (hget H v.a) v.b i)) = bs[i].toNat := by
          intro n
          induction n with
          | zero => intro _; exact ⟨[], rfl, by simp, fun i h => by simp at h⟩
          | succ n ih =>
            intro hn
            obtain ⟨bs, h1, h2, h3⟩ := ih (by omega)
            obtain ⟨b, h4, h5⟩ := key n (by omega)
            refine ⟨bs ++ [b], by simp [h1], ?_, fun i hi => ?_⟩
            · rw [List.take_add_one, h2, h4]; simp
            · by_cases hin : i < bs.length
              · rw [List.getElem_append_left hin]; exact h3 i hin
              · have : i = n := by simp at hi; omega
                subst this
                rw [List.getElem_append_right (by omega)]
                simpa [h1] using h5
        obtain ⟨bs, h1, h2, h3⟩ := this v.c (Nat.le_refl _)
        rw [List.take_of_length_le (by omega)] at h2
        exact ⟨bs, h2, h3⟩
      obtain ⟨bs, e1, e2⟩ := hbytes
      have hbl : bs.length = v.c := by rw [← hLl, e1, List.length_map]
      refine ⟨.string ⟨⟨bs⟩⟩, ?_, ?_⟩
      · have hf := hL.run w v.c rfl (Nat.le_refl _)
        rw [Nat.mul_one, List.take_of_length_le (by omega)] at hf
        have hf' : (loadCells ⟨m.c, off, none⟩ v.c).run P w = .ok ⟨L⟩ w := by
          have : (loadCells ⟨m.c, off, none⟩ (v.c * 1)).run P w = .ok ⟨L⟩ w := hf
          rwa [Nat.mul_one] at this
        unfold Conv.bytesToString
        simp only [Sem.run_bind, hf', Result.andThen_ok]
        have hfor := toBytes (P := P) L bs e1 .empty w
        rw [← Array.forIn_toList]
        erw [hfor]
        simp
      · rw [bytesN_eq v.c _ 0 0 bs hbl (fun i b hi => by
          rw [Nat.zero_add]
          obtain ⟨h1, h2⟩ := List.getElem?_eq_some_iff.1 hi
          rw [e2 i h1, h2])]
        have := vr_str (μ := μ) (l := bs) (s := ⟨⟨bs⟩⟩) rfl
        rw [hbl] at this
        simpa using this
end Go.Ev

/-! Proofs, part 11: maps, iterators. -/
namespace Go.Ev
set_option linter.unusedVariables false
set_option linter.unusedSimpArgs false
variable {μ : Mu} {P : Program} {w : World} {H : Heap} {ro : Nat}

theorem getObj_run {r : Nat} {o : Obj} (h : w.heap[r]? = some o) (hc : ∀ c e f, o ≠ .cells c e f) : (getObj r).run P w = .ok o w := by
  unfold getObj
  simp only [Sem.run, h]
theorem setObj_run {r : Nat} {o o' : Obj} (h : w.heap[r]? = some o) (hc : ∀ c e f, o ≠ .cells c e f) : (setObj r o').run P w = .ok () (w.setB r o') := by
  unfold setObj
  simp only [Sem.run, h]
  cases o <;> first | rfl | exact absurd rfl (hc _ _ _)
/-- the kind of key -/
def keyKind : TypeDesc → Prop
  | .bool | .int _ | .string => True
  | _ => False
theorem plainKey_inv {t k e : TypeId} (h : plainKey P t = some (k, e)) : P.underlying t = some (.map k e) ∧ ∃ d, P.underlying k = some d ∧ keyKind d := by
  unfold plainKey at h
  split at h
  · rename_i k' e' hu
    split at h
    · rename_i hk; obtain ⟨rfl, rfl⟩ := by simpa using h
      exact ⟨hu, _, hk, trivial⟩
    · rename_i hk; obtain ⟨rfl, rfl⟩ := by simpa using h
      exact ⟨hu, _, hk, trivial⟩
    · rename_i hk; obtain ⟨rfl, rfl⟩ := by simpa using h
      exact ⟨hu, _, hk, trivial⟩
    · cases h
  · cases h
/-- a key is of its kind -/
inductive KeyR (μ : Mu) : TypeDesc → AV → Value → Prop
  | bool (b : Bool) : KeyR μ .bool (vB b) (.bool b)
  | int (k : IntKind) (n : Int) (h : -9223372036854775808 ≤ n) : KeyR μ (.int k) (vInt (kc k) (biasI n)) (.int k n)
  | str (s : ByteArray) : KeyR μ .string (vStr s.data.toList.length (packB s.data.toList)) (.string s)
theorem key_inv {k : TypeId} {d : TypeDesc} {v : AV} {x : Value} (hd : P.underlying k = some d) (hk : keyKind d) (hv : VR μ v x) (hok : keyOk (keyTag P k) v = true) : KeyR μ d v x := by
  unfold keyTag at hok
  rw [hd] at hok
  cases d with
  | bool =>
    have h : Nat.ble v.t 1 = true := hok
    rw [ble_t] at h
    obtain ⟨b, rfl, rfl⟩ := hv.inv_bool h
    exact .bool b
  | int i =>
    unfold keyOk at hok
    simp only at hok
    have hr := kc_range i
    rw [beq_f (by omega), cT_false, beq_t] at hok
    obtain ⟨n, hn, rfl, rfl⟩ := hv.inv_int hok
    exact .int i n hn
  | string =>
    have h : Nat.beq v.t 2 = true := hok
    rw [beq_t] at h
    obtain ⟨s, rfl, rfl⟩ := hv.inv_str h
    exact .str s
  | _ => exact hk.elim
theorem ba_beq (s r : ByteArray) : (s == r) = (s.data == r.data) := by cases s; cases r; rfl
theorem same_now {d : TypeDesc} {v u : AV} {x y : Value} (hk : KeyR μ d v x) (hu : VR μ u y) :
    (scalarEq v u = 1 → Instr.sameNow d x y = some true ∧ Instr.sameBits 10000 y x = true) ∧ (scalarEq v u = 0 → Instr.sameNow d x y = some false) := by
  cases hk with
  | bool b =>
    have e0 : scalarEq (vB b) u = cT (Nat.ble u.t 1) (cT (Nat.beq (vB b).t u.t) 1 0) 2 := by cases b <;> rfl
    rw [e0]
    cases hb : Nat.ble u.t 1 with
    | false => simp
    | true =>
      rw [ble_t] at hb
      obtain ⟨c, rfl, rfl⟩ := hu.inv_bool hb
      cases b <;> cases c <;> simp [vB, cV, vT, vF, cT, Instr.sameNow, Instr.sameBits]
  | str s =>
    have e0 : scalarEq (vStr s.data.toList.length (packB s.data.toList)) u = cT (Nat.beq u.t 2) (cT (eqStr (vStr s.data.toList.length (packB s.data.toList)) u) 1 0) 2 := rfl
    rw [e0]
    cases hb : Nat.beq u.t 2 with
    | false => simp
    | true =>
      rw [beq_t] at hb
      obtain ⟨r, rfl, rfl⟩ := hu.inv_str hb
      have h1 : eqStr (vStr s.data.toList.length (packB s.data.toList)) (vStr r.data.toList.length (packB r.data.toList)) = (s.toList == r.toList) := strEq_eq s r
      rw [h1]
      have h2 : (s.toList == r.toList) = (s == r) := by
        rw [toList_eq, toList_eq, ba_beq, Bool.eq_iff_iff, beq_iff_eq, beq_iff_eq, ← Array.toList_inj]
      rw [h2]
      cases hsr : s == r with
      | true =>
        have : (r == s) = true := by rw [ba_beq, beq_iff_eq] at hsr ⊢; exact hsr.symm
        simp [Instr.sameNow, Instr.sameBits, hsr, this]
      | false => simp [Instr.sameNow, hsr]
  | int k n hn =>
    have hr := kc_range k
    have e0 : scalarEq (vInt (kc k) (biasI n)) u = cT (bA (isI (vInt (kc k) (biasI n))) (Nat.beq (kc k) u.t)) (cT (Nat.beq (biasI n) u.a) 1 0) 2 := by
      unfold scalarEq
      have a1 : Nat.ble (vInt (kc k) (biasI n)).t 1 = false := ble_f (show 1 < kc k by omega)
      have a2 : Nat.beq (vInt (kc k) (biasI n)).t 2 = false := beq_f (show kc k ≠ 2 by omega)
      rw [a1, a2, cT_false, cT_false]
      rfl
    rw [e0]
    cases hb : bA (isI (vInt (kc k) (biasI n))) (Nat.beq (kc k) u.t) with
    | false => simp
    | true =>
      rw [bA_true, beq_t] at hb
      obtain ⟨m, hm, rfl, rfl⟩ := hu.inv_int hb.2.symm
      have : Nat.beq (biasI n) (biasI m) = (n == m) := (hCmp_eq hn hm).1
      rw [show (vInt (kc k) (biasI m)).a = biasI m from rfl, this]
      cases hnm : n == m with
      | true =>
        have : (m == n) = true := by rw [beq_iff_eq] at hnm ⊢; exact hnm.symm
        simp [Instr.sameNow, Instr.sameBits, hnm, this]
      | false => simp [Instr.sameNow, hnm]
theorem findE_cons (key : AV) (e : Ent) (es : List Ent) (i : Nat) : findE key (e :: es) i = cT (Nat.beq (scalarEq key e.k) 1) (Nat.add i 3) (cT (Nat.beq (scalarEq key e.k) 0) (findE key es (Nat.succ i)) 2) := rfl
theorem find_sound {d : TypeDesc} {key : AV} {kv : Value} (hk : KeyR μ d key kv) : ∀ (es : List Ent) (ys : List MapEntry) (i : Nat), ERs μ es ys → findE key es i ≠ 2 →
    (findE key es i = 1 ∧ Instr.findNow d kv ys i = some none) ∨
    ∃ p, p < es.length ∧ findE key es i = i + p + 3 ∧ ∃ y, ys[p]? = some y ∧ Instr.findNow d kv ys i = some (some (i + p, y.val)) ∧ Instr.sameBits 10000 y.key kv = true
  | _, _, i, .nil, h => .inl ⟨rfl, rfl⟩
  | e :: es, y :: ys, i, .cons h1 h2 h3 h4, h => by
    obtain ⟨s1, s2⟩ := same_now hk h1
    rw [findE_cons] at h ⊢
    by_cases c1 : scalarEq key e.k = 1
    · right
      rw [c1]
      exact ⟨0, by simp, rfl, y, rfl, by unfold Instr.findNow; rw [(s1 c1).1]; rfl, (s1 c1).2⟩
    · rw [beq_f c1, cT_false] at h ⊢
      by_cases c0 : scalarEq key e.k = 0
      · rw [c0] at h ⊢
        have h' : findE key es (i + 1) ≠ 2 := h
        have fn : Instr.findNow d kv (y :: ys) i = Instr.findNow d kv ys (i + 1) := by
          rw [Instr.findNow, s2 c0]
        rw [fn]
        rcases find_sound hk es ys (i + 1) h4 h' with ⟨k1, k2⟩ | ⟨p, k1, k2, y', k3, k4, k5⟩
        · exact .inl ⟨k1, k2⟩
        · refine .inr ⟨p + 1, by simpa using k1, ?_, y', by simpa using k3, by rw [k4, show i + 1 + p = i + (p + 1) by omega], k5⟩
          show findE key es (i + 1) = _
          rw [k2]; omega
      · rw [beq_f c0, cT_false] at h
        exact absurd rfl h
theorem checkKey_run {b : Bool} {k : TypeId} {d : TypeDesc} {v : AV} {x : Value} (hd : P.underlying k = some d) (hk : KeyR μ d v x) : (Instr.checkKey b 10000 k x).run P w = .ok () w := by
  show (Instr.checkKey b (9999 + 1) k x).run P w = _
  unfold Instr.checkKey
  rw [Sem.run_bind, und_run hd, Result.andThen_ok]
  cases hk <;> rfl
theorem findKey_run {k : TypeId} {d : TypeDesc} {kv : Value} {ys : List MapEntry} {r : Option (Nat × Value)} (hd : P.underlying k = some d) (h : Instr.findNow d kv ys 0 = some r) : (Instr.findKey k kv ys).run P w = .ok r w := by
  unfold Instr.findKey
  rw [Sem.run_bind, und_run hd, Result.andThen_ok]
  simp only [h, Sem.run_pure]
theorem ERs.len {es : List Ent} {ys : List MapEntry} (h : ERs μ es ys) : es.length = ys.length := by
  induction h with
  | nil => rfl
  | cons _ _ _ _ ih => simp [ih]
theorem ERs.get {es : List Ent} {ys : List MapEntry} (h : ERs μ es ys) : ∀ {p : Nat} {y : MapEntry}, ys[p]? = some y → ∃ e, es[p]? = some e ∧ VR μ e.k y.key ∧ VR μ e.v y.val ∧ e.n = y.born := by
  induction h with
  | nil => intro p y h; simp at h
  | @cons e y' es ys hk hv hn _ ih =>
    intro p y h
    cases p with
    | zero =>
      simp at h; subst h
      exact ⟨e, rfl, hk, hv, hn⟩
    | succ p =>
      obtain ⟨e', h1⟩ := ih (p := p) (y := y) (by simpa using h)
      exact ⟨e', by simpa using h1⟩
theorem nthE_eq : ∀ (es : List Ent) (z : AV) (p : Nat) (e : Ent), es[p]? = some e → nthE es z p = e.v
  | [], z, p, e, h => by simp at h
  | e' :: es, z, 0, e, h => by simp at h; subst h; rfl
  | e' :: es, z, p + 1, e, h => by
    show nthE es z p = _
    exact nthE_eq es z p e (by simpa using h)

theorem axOf_of {ab : AB} (h : axOf ab ≠ .none) : ab.t = 3 ∧ axOf ab = ab.x := by
  unfold axOf at h ⊢
  cases hb : Nat.beq ab.t 3 with
  | true => rw [beq_t] at hb; exact ⟨hb, rfl⟩
  | false => rw [hb] at h; exact absurd rfl h
theorem HR.x (h : HR μ H w) {b : Nat} {m : MB} (hb : μ b = some m) (hn : axOf (hget H b) ≠ .none) : ∃ o, w.heap[m.c]? = some o ∧ XR μ (axOf (hget H b)) o ∧ (hget H b).t = 3 ∧ m.q = 0 := by
  obtain ⟨h3, he⟩ := axOf_of hn
  obtain ⟨o, h1, h2⟩ := h.blk b m hb (by omega)
  rw [he]
  cases h2 with
  | x _ hq hx => exact ⟨o, h1, hx, h3, hq⟩
  | row h => omega
  | arr h => omega
theorem lookup_map {b : Nat} {m : MB} (hH : HR μ H w) (hb : μ b = some m) (hm : isMap (axOf (hget H b)) = true) :
    ∃ ys clk, w.heap[m.c]? = some (.map ys clk) ∧ clkOf (axOf (hget H b)) = clk ∧ ERs μ (entsOf (axOf (hget H b))) ys.toList ∧ (hget H b).t = 3 ∧ m.q = 0 := by
  obtain ⟨o, h1, h2, h3⟩ := hH.x hb (fun e => by rw [e] at hm; cases hm)
  generalize axOf (hget H b) = ax at hm h2
  cases h2 with
  | map es ys clk h => exact ⟨ys, clk, h1, rfl, h, h3⟩
  | _ => cases hm
theorem mapB_inv {v : AV} {x : Value} (hH : HR μ H w) (hv : VR μ v x) (hm : mapB v H = true) :
    ∃ m ys clk, μ v.a = some m ∧ x = .map (some m.c) ∧ w.heap[m.c]? = some (.map ys clk) ∧ clkOf (axOf (hget H v.a)) = clk ∧ ERs μ (entsOf (axOf (hget H v.a))) ys.toList ∧ (hget H v.a).t = 3 ∧ m.q = 0 := by
  unfold mapB at hm
  rw [bA_true, beq_t] at hm
  obtain ⟨m, h1, h2⟩ := hv.inv_map hm.1
  obtain ⟨ys, clk, h3, h4, h5, h6⟩ := lookup_map hH h1 hm.2
  exact ⟨m, ys, clk, h1, h2.1, h3, h4, h5, h6⟩
theorem VR.pair {v u : AV} {x y : Value} (hv : VR μ v x) (hu : VR μ u y) : VR μ (vTup [v, u]) (.tuple #[x, y]) := by
  have := VRs.cons hv (VRs.single hu)
  exact .tup _ _ this.1 this.2
theorem VR.triple {v u z : AV} {x y t : Value} (hv : VR μ v x) (hu : VR μ u y) (hz : VR μ z t) : VR μ (vTup [v, u, z]) (.tuple #[x, y, t]) := by
  have := VRs.cons hv (VRs.cons hu (VRs.single hz))
  exact .tup _ _ this.1 this.2
theorem VR.tup1 {v : AV} {x : Value} (hv : VR μ v x) : VR μ (vTup [v]) (.tuple #[x]) := by
  have := VRs.single hv
  exact .tup _ _ this.1 this.2
theorem lookH_sound {t k e : TypeId} {v u : AV} {x y : Value} {ok : Bool} (ht : plainKey P t = some (k, e)) (hz : Ok (zeroA P e)) (hH : HR μ H w) (hv : VR μ v x) (hu : VR μ u y)
    (hok : Ok (lookH (zeroA P e) ok (keyTag P k) v u H)) : ∃ z, (Instr.lookup t x y ok).run P w = .ok z w ∧ VR μ (lookH (zeroA P e) ok (keyTag P k) v u H) z := by
  obtain ⟨h1, d, h2, h3⟩ := plainKey_inv ht
  unfold lookH at hok ⊢
  cases hko : keyOk (keyTag P k) u with
  | false => rw [hko] at hok; simp [cV, Ok, vX] at hok
  | true =>
    rw [hko, cV_true] at hok
    rw [cV_true]
    have hk := key_inv h2 h3 hu hko
    obtain ⟨z0, z1, z2⟩ := zero_run (μ := μ) (w := w) hz
    cases hn : Nat.beq v.t 24 with
    | true =>
      rw [beq_t] at hn
      obtain ⟨rfl, _⟩ := hv.inv_nilm hn
      rw [cV_true]
      refine ⟨if ok then .tuple #[z0, .bool false] else z0, ?_, ?_⟩
      · unfold Instr.lookup
        simp only [Sem.run_bind, und_run h1, Result.andThen_ok, Sem.run_pure, checkKey_run h2 hk, findKey_run (ys := []) (r := none) h2 rfl, z1]
      · cases ok
        · exact z2
        · exact z2.pair .f
    | false =>
      rw [hn, cV_false] at hok
      rw [cV_false]
      cases hm : mapB v H with
      | false => rw [hm] at hok; simp [cV, Ok, vX] at hok
      | true =>
        rw [hm, cV_true] at hok
        rw [cV_true]
        obtain ⟨m, ys, clk, k1, rfl, k2, k3, k4, _⟩ := mapB_inv hH hv hm
        have hr2 : findE u (entsOf (axOf (hget H v.a))) 0 ≠ 2 := fun e => by rw [e] at hok; simp [foundV, cV, Ok, vX] at hok
        rcases find_sound hk _ _ 0 k4 hr2 with ⟨f1, f2⟩ | ⟨p, f1, f2, yy, f3, f4, _⟩
        · rw [f1]
          refine ⟨if ok then .tuple #[z0, .bool false] else z0, ?_, ?_⟩
          · unfold Instr.lookup
            simp only [Sem.run_bind, und_run h1, Result.andThen_ok, Sem.run_pure, getObj_run k2 (fun _ _ _ h => by cases h), checkKey_run h2 hk, findKey_run h2 f2, z1]
          · cases ok
            · exact z2
            · exact z2.pair .f
        · rw [f2]
          obtain ⟨e', g1, g2, g3, g4⟩ := k4.get f3
          have ev : foundV (zeroA P e) ok (entsOf (axOf (hget H v.a))) (0 + p + 3) = cV ok (vTup [e'.v, vT]) e'.v := by
            unfold foundV
            rw [beq_f (by omega), cV_false, beq_f (by omega), cV_false, show Nat.sub (0 + p + 3) 3 = p by rw [Nat.sub_eq]; omega, nthE_eq _ _ _ _ g1]
          rw [ev]
          refine ⟨if ok then .tuple #[yy.val, .bool true] else yy.val, ?_, ?_⟩
          · unfold Instr.lookup
            simp only [Sem.run_bind, und_run h1, Result.andThen_ok, Sem.run_pure, getObj_run k2 (fun _ _ _ h => by cases h), checkKey_run h2 hk, findKey_run h2 f4]
          · cases ok
            · exact g3
            · exact g3.pair .t

/-! ### maps that are written -/
theorem addE_eq (key v : AV) (clk : Nat) : ∀ es : List Ent, addE key v clk es = es ++ [⟨key, v, clk⟩]
  | [] => rfl
  | e :: es => by show e :: addE key v clk es = _; rw [addE_eq key v clk es]; rfl
theorem ERs.push {es : List Ent} {ys : List MapEntry} {key v : AV} {x y : Value} {clk : Nat} (h : ERs μ es ys) (hk : VR μ key x) (hv : VR μ v y) : ERs μ (addE key v clk es) (ys ++ [⟨x, y, clk⟩]) := by
  rw [addE_eq]
  induction h with
  | nil => exact .cons hk hv rfl .nil
  | cons h1 h2 h3 _ ih => exact .cons h1 h2 h3 ih
theorem ERs.setE {es : List Ent} {ys : List MapEntry} {key v : AV} {x y : Value} (h : ERs μ es ys) (hk : VR μ key x) (hv : VR μ v y) :
    ∀ p, p < es.length → ERs μ (setE key v es p) (ys.modify p fun e => { e with key := x, val := y }) := by
  induction h with
  | nil => intro p h; simp at h
  | @cons e y' es ys h1 h2 h3 h4 ih =>
    intro p hp
    cases p with
    | zero => exact .cons hk hv h3 h4
    | succ p =>
      show ERs μ (e :: Go.Ev.setE key v es p) _
      rw [List.modify_succ_cons]
      exact .cons h1 h2 h3 (ih p (by simpa using hp))
theorem ERs.delE {es : List Ent} {ys : List MapEntry} (h : ERs μ es ys) :
    ∀ p, p < es.length → ERs μ (delE es p) (ys.eraseIdx p) := by
  induction h with
  | nil => intro p h; simp at h
  | @cons e y' es ys h1 h2 h3 h4 ih =>
    intro p hp
    cases p with
    | zero => exact h4
    | succ p =>
      show ERs μ (e :: Go.Ev.delE es p) _
      rw [List.eraseIdx_cons_succ]
      exact .cons h1 h2 h3 (ih p (by simpa using hp))
theorem mupd_sound {t k e : TypeId} {v u s : AV} {x y z : Value} {kk : KR} (ht : plainKey P t = some (k, e)) (hH : HR μ H w) (hv : VR μ v x) (hu : VR μ u y) (hs : VR μ s z)
    (hok : mupd ro (keyTag P k) v u s H kk = .done) : ∃ H' w', (Instr.mapUpdate t x y z).run P w = .ok () w' ∧ HR μ H' w' ∧ Ext ro μ H w μ H' w' ∧ kk undefA H' = .done := by
  obtain ⟨h1, d, h2, h3⟩ := plainKey_inv ht
  unfold mupd at hok
  rw [cA_done, bA_true, bA_true, bA_true, ble_t, ble_t] at hok
  obtain ⟨⟨hko, _, hro, hm⟩, hok⟩ := hok
  have hk := key_inv h2 h3 hu hko
  obtain ⟨m, ys, clk, k1, rfl, k2, k3, k4, k5, k6⟩ := mapB_inv hH hv hm
  rw [k3] at hok
  unfold mupd2 at hok
  have hr2 : findE u (entsOf (axOf (hget H v.a))) 0 ≠ 2 := fun e => by rw [e] at hok; simp [cA] at hok
  rw [beq_f hr2, cA_false] at hok
  rcases find_sound hk _ _ 0 k4 hr2 with ⟨f1, f2⟩ | ⟨p, f1, f2, yy, f3, f4, f5⟩
  · rw [f1] at hok
    have hok' : kk undefA (hset H v.a (bX (.map (addE u s clk (entsOf (axOf (hget H v.a)))) (Nat.succ clk)))) = .done := hok
    obtain ⟨g1, g2⟩ := hH.set (ro := ro) k1 (by omega) hro (ab := bX (.map (addE u s clk (entsOf (axOf (hget H v.a)))) (Nat.succ clk))) (o := .map (ys.push ⟨y, z, clk⟩) (clk + 1))
      (.x rfl k6 (.map _ _ _ (by rw [Array.toList_push]; exact k4.push hu hs)))
    refine ⟨_, _, ?_, g1, g2, hok'⟩
    unfold Instr.mapUpdate
    simp only [Sem.run_bind, und_run h1, Result.andThen_ok, getObj_run k2 (fun _ _ _ h => by cases h), checkKey_run h2 hk, findKey_run h2 f2]
    exact setObj_run k2 (fun _ _ _ h => by cases h)
  · rw [f2, beq_f (by omega), cA_false, show Nat.sub (0 + p + 3) 3 = p by rw [Nat.sub_eq]; omega] at hok
    obtain ⟨g1, g2⟩ := hH.set (ro := ro) k1 (by omega) hro (ab := bX (.map (Go.Ev.setE u s (entsOf (axOf (hget H v.a))) p) clk)) (o := .map (ys.modify p fun e => { e with key := y, val := z }) clk)
      (.x rfl k6 (.map _ _ _ (by rw [Array.toList_modify]; exact k4.setE hu hs p f1)))
    refine ⟨_, _, ?_, g1, g2, hok⟩
    unfold Instr.mapUpdate
    have hkey : (Instr.keyThatStays yy.key y).run P w = .ok y w := by
      unfold Instr.keyThatStays
      rw [if_pos f5]; rfl
    rw [Nat.zero_add] at f4
    have f3' : ys[p]? = some yy := by rw [← Array.getElem?_toList]; exact f3
    simp only [Sem.run_bind, und_run h1, Result.andThen_ok, getObj_run k2 (fun _ _ _ h => by cases h), checkKey_run h2 hk, findKey_run h2 f4, f3', Option.map_some, Option.getD_some, hkey]
    exact setObj_run k2 (fun _ _ _ h => by cases h)
theorem setB_same {c : Nat} {o : Obj} (h : w.heap[c]? = some o) : w.setB c o = w := by
  unfold World.setB
  have : w.heap.setIfInBounds c o = w.heap := by
    apply Array.ext_getElem?
    intro i
    rw [Array.getElem?_setIfInBounds]
    split
    · rename_i e; subst e; rw [if_pos (get_lt h), h]
    · rfl
  rw [this]
theorem mdel_sound {t k e ty : TypeId} {v u : AV} {x y : Value} {kk : KR} (ht : plainKey P t = some (k, e)) (hH : HR μ H w) (hv : VR μ v x) (hu : VR μ u y)
    (hok : mdel ro (keyTag P k) v u H kk = .done) (ats : Array TypeId) (ha : ats[0]? = some t) : EffOK ro μ H w ((Builtin.delete_ ats ty #[x, y]).run P w) kk := by
  obtain ⟨h1, d, h2, h3⟩ := plainKey_inv ht
  unfold mdel at hok
  rw [cA_done] at hok
  obtain ⟨hko, hok⟩ := hok
  have hk := key_inv h2 h3 hu hko
  rcases cA_cases hok with ⟨hn, hok2⟩ | ⟨hn, hok2⟩
  · rw [beq_t] at hn
    obtain ⟨rfl, _⟩ := hv.inv_nilm hn
    refine ⟨.tuple #[], w, μ, H, _, ?_, hH, .refl _ _ _ _, .undef, hok2⟩
    unfold Builtin.delete_
    rw [ha]
    simp only [List.getElem?_toArray, List.getElem?_cons_zero, List.getElem?_cons_succ, Sem.run_bind, und_run h1, Result.andThen_ok, Sem.run_pure, checkKey_run h2 hk]
  · rw [cA_done, bA_true, ble_t] at hok2
    obtain ⟨⟨hro, hm⟩, hok3⟩ := hok2
    obtain ⟨m, ys, clk, k1, rfl, k2, k3, k4, k5, k6⟩ := mapB_inv hH hv hm
    rw [k3] at hok3
    unfold mdel2 at hok3
    have hr2 : findE u (entsOf (axOf (hget H v.a))) 0 ≠ 2 := fun e => by rw [e] at hok3; simp [cA] at hok3
    rw [beq_f hr2, cA_false] at hok3
    rcases find_sound hk _ _ 0 k4 hr2 with ⟨f1, f2⟩ | ⟨p, f1, f2, yy, f3, f4, f5⟩
    · rw [f1] at hok3
      have hok' : kk undefA H = .done := hok3
      refine ⟨.tuple #[], w, μ, H, _, ?_, hH, .refl _ _ _ _, .undef, hok'⟩
      unfold Builtin.delete_
      rw [ha]
      simp only [List.getElem?_toArray, List.getElem?_cons_zero, List.getElem?_cons_succ, Sem.run_bind, und_run h1, Result.andThen_ok, Sem.run_pure, getObj_run k2 (fun _ _ _ h => by cases h), checkKey_run h2 hk, findKey_run h2 f2,
        setObj_run (o' := .map ys clk) k2 (fun _ _ _ h => by cases h), setB_same k2]
    · rw [f2, beq_f (by omega), cA_false, show Nat.sub (0 + p + 3) 3 = p by rw [Nat.sub_eq]; omega] at hok3
      have hp : p < ys.size := by have := k4.len; simp at this; omega
      obtain ⟨g1, g2⟩ := hH.set (ro := ro) k1 (by omega) hro (ab := bX (.map (Go.Ev.delE (entsOf (axOf (hget H v.a))) p) clk)) (o := .map (ys.eraseIdxIfInBounds p) clk)
        (.x rfl k6 (.map _ _ _ (by
          have : (ys.eraseIdxIfInBounds p).toList = ys.toList.eraseIdx p := by
            unfold Array.eraseIdxIfInBounds
            rw [dif_pos hp, Array.toList_eraseIdx]
          rw [this]; exact k4.delE p f1)))
      refine ⟨.tuple #[], _, μ, _, _, ?_, g1, g2, .undef, hok3⟩
      unfold Builtin.delete_
      rw [ha]
      simp only [List.getElem?_toArray, List.getElem?_cons_zero, List.getElem?_cons_succ, Sem.run_bind, und_run h1, Result.andThen_ok, Sem.run_pure, getObj_run k2 (fun _ _ _ h => by cases h), checkKey_run h2 hk, findKey_run h2 f4,
        setObj_run k2 (fun _ _ _ h => by cases h), Nat.zero_add]
theorem lenE_eq : ∀ es : List Ent, lenE es = es.length
  | [] => rfl
  | e :: es => by show Nat.succ (lenE es) = _; rw [lenE_eq es]; rfl
end Go.Ev

/-! Proofs, part 12: ranges over strings and maps. -/
namespace Go.Ev
set_option linter.unusedVariables false
set_option linter.unusedSimpArgs false
variable {μ : Mu} {P : Program} {w : World} {H : Heap} {ro : Nat}

theorem range_new {x : AX} {o : Obj} (hx : XR μ x o) : NewR μ w (bX x) (fun b => vPtr b 0) (.pointer (some ⟨w.heap.size, 0, none⟩)) o ⟨w.heap.size, 0, 0, 0⟩ :=
  ⟨rfl, .x rfl rfl hx, fun μ' b hb => vr_ptr hb (by simp)⟩
theorem rangeS_sound {t : TypeId} {v : AV} {x : Value} {k : KR} (ht : P.underlying t = some .string) (hH : HR μ H w) (hv : VR μ v x)
    (hok : rangeS v H k = .done) : EffOK ro μ H w ((Instr.range t x).run P w) k := by
  unfold rangeS at hok
  rw [tA_done] at hok
  obtain ⟨h1, hok2⟩ := hok
  obtain ⟨s, rfl, rfl⟩ := hv.inv_str h1
  rw [hnewK_done] at hok2
  refine EffOK.new hH hok2.1 ?_ (range_new (.sit s 0)) hok2.2
  unfold Instr.range
  simp only [Sem.run_bind, und_run ht, Result.andThen_ok, Sem.run_pure, run_newObj]
  rfl
theorem rangeM_sound {t a b : TypeId} {v : AV} {x : Value} {k : KR} (ht : P.underlying t = some (.map a b)) (hH : HR μ H w) (hv : VR μ v x)
    (hok : rangeM v H k = .done) : EffOK ro μ H w ((Instr.range t x).run P w) k := by
  unfold rangeM at hok
  rcases cA_cases hok with ⟨h2, hok3⟩ | ⟨h2, hok3⟩
  · rw [beq_t] at h2
    obtain ⟨rfl, _⟩ := hv.inv_nilm h2
    rw [hnewK_done] at hok3
    refine EffOK.new hH hok3.1 ?_ (range_new (.mit0 0 [] 0)) hok3.2
    unfold Instr.range
    simp only [Sem.run_bind, und_run ht, Result.andThen_ok, Sem.run_pure, run_newObj, List.reverse_nil]
    rfl
  · rw [cA_done] at hok3
    obtain ⟨h3, hok3⟩ := hok3
    obtain ⟨m, ys, clk, k1, rfl, k2, k3, k4, _⟩ := mapB_inv hH hv h3
    rw [hnewK_done, k3] at hok3
    refine EffOK.new hH hok3.1 ?_ (range_new (.mit v.a m clk [] clk k1)) hok3.2
    unfold Instr.range
    simp only [Sem.run_bind, und_run ht, Result.andThen_ok, getObj_run k2 (fun _ _ _ h => by cases h), Sem.run_pure, run_newObj, List.reverse_nil]
    rfl
/-! ### next -/
theorem hasN_eq (n : Nat) : ∀ s : List Nat, hasN s n = s.contains n
  | [] => rfl
  | m :: s => by
    show cT (Nat.beq m n) true (hasN s n) = _
    rw [hasN_eq n s, List.contains_cons]
    by_cases h : m = n
    · subst h; simp
    · rw [beq_f h, cT_false]
      have : (n == m) = false := by simpa using fun e => h e.symm
      rw [this, Bool.false_or]
theorem oldE_eq (since : Nat) : ∀ es : List Ent, oldE since es = true ↔ ∀ e ∈ es, e.n < since
  | [] => by simp [oldE]
  | e :: es => by
    show bA (Nat.ble (Nat.succ e.n) since) (oldE since es) = true ↔ _
    rw [bA_true, ble_t, oldE_eq since es]
    simp only [List.mem_cons, forall_eq_or_imp]
    exact Iff.rfl
theorem eachE_done (f : Ent → Ans) : ∀ es : List Ent, eachE f es = .done ↔ ∀ e ∈ es, f e = .done
  | [] => by simp [eachE]
  | e :: es => by
    show andA (f e) (eachE f es) = .done ↔ _
    rw [andA_done, eachE_done f es]
    simp
theorem leftE_rel {seen : List Nat} {es : List Ent} {ys : List MapEntry} (h : ERs μ es ys) : ERs μ (leftE seen es) (ys.filter fun e => !(⟨seen.reverse⟩ : Array Nat).contains e.born) := by
  induction h with
  | nil => exact .nil
  | @cons e y es ys h1 h2 h3 h4 ih =>
    have e1 : leftE seen (e :: es) = cT (hasN seen e.n) (leftE seen es) (e :: leftE seen es) := rfl
    have e2 : (⟨seen.reverse⟩ : Array Nat).contains y.born = hasN seen e.n := by
      rw [hasN_eq, h3]; simp
    rw [e1, List.filter_cons, e2]
    cases hasN seen e.n with
    | true => simpa using ih
    | false => simpa using ERs.cons h1 h2 h3 ih
theorem gone_eq {seen : List Nat} {es : List Ent} {ys : List MapEntry} {last : Nat} (h : ERs μ es ys) (hg : goneE seen es last = false) :
    (!(⟨seen.reverse⟩ : Array Nat).isEmpty && !(⟨ys⟩ : Array MapEntry).isEmpty && (⟨ys⟩ : Array MapEntry).all (fun e => decide (e.born ≥ last))) = false := by
  cases seen with
  | nil => simp
  | cons s seen =>
    cases h with
    | nil => simp
    | @cons e y es ys h1 h2 h3 h4 =>
      have key : ∀ (es : List Ent) (ys : List MapEntry), ERs μ es ys → List.rec (motive := fun _ => Bool) true (fun e _ ih => bA (Nat.ble last e.n) ih) es = ys.all (fun e => decide (e.born ≥ last)) := by
        intro es ys h
        induction h with
        | nil => rfl
        | @cons e y es ys h1 h2 h3 _ ih =>
          show bA (Nat.ble last e.n) _ = _
          rw [ih, List.all_cons, h3]
          have : Nat.ble last y.born = decide (y.born ≥ last) := by
            rw [Bool.eq_iff_iff, ble_t, decide_eq_true_iff]
          rw [this]
          cases decide (y.born ≥ last) <;> rfl
      have hg' : List.rec (motive := fun _ => Bool) true (fun e _ ih => bA (Nat.ble last e.n) ih) (e :: es) = false := hg
      rw [key _ _ (.cons h1 h2 h3 h4)] at hg'
      have e2 : (⟨y :: ys⟩ : Array MapEntry).all (fun e => decide (e.born ≥ last)) = (y :: ys).all (fun e => decide (e.born ≥ last)) := by
        rw [← Array.all_toList]
      rw [e2, hg', Bool.and_false]
theorem choose_run (q : Question) : ∃ w', (choose q).run P w = .ok (if q.forced then 0 else q.cut (w.tape w.drawn q)) w' ∧ (w' = w ∨ w' = w.drew) := by
  rw [run_choose_drew]
  cases q.forced
  · exact ⟨_, rfl, .inr rfl⟩
  · exact ⟨_, rfl, .inl rfl⟩
theorem choose_next (n : Nat) (hn : 0 < n) : ∃ i w', i < n ∧ (choose (.mapNext n)).run P w = .ok i w' ∧ (w' = w ∨ w' = w.drew) := by
  obtain ⟨w', h1, h2⟩ := choose_run (P := P) (w := w) (.mapNext n)
  refine ⟨_, w', ?_, h1, h2⟩
  split
  · exact hn
  · exact Nat.mod_lt _ hn

theorem ba_len (s : ByteArray) : s.data.toList.length = s.size := Array.length_toList
theorem sit_step {s : ByteArray} {pos : Nat} (hp : pos < s.size) (hb : byteAt (packB s.data.toList) pos ≤ 127) : Utf8.decode s pos = (byteAt (packB s.data.toList) pos, 1) := by
  have hl : pos < s.data.toList.length := by rw [ba_len]; exact hp
  rw [byteAt_eq hl] at hb ⊢
  unfold Utf8.decode
  have hg : s.get! pos = s.data.toList[pos] := by
    obtain ⟨bs⟩ := s
    show bs[pos]! = _
    rw [getElem!_pos bs pos hp]
    rfl
  simp only [Nat.add_zero, hg]
  rw [if_pos (by omega)]
theorem nextS_sound {v : AV} {s : ByteArray} {pos : Nat} {m : MB} {ty : TypeId} {k : KR} (hH : HR μ H w) (hb : μ v.a = some m) (hq : m.q = 0) (hro : ro ≤ v.a) (h3 : (hget H v.a).t = 3)
    (ho : w.heap[m.c]? = some (.stringIter s pos)) (hok : nextS v H k s.data.toList.length (packB s.data.toList) pos = .done) :
    EffOK ro μ H w ((Instr.next (.pointer (some ⟨m.c, 0, none⟩)) true ty).run P w) k := by
  unfold nextS at hok
  have hsz : s.data.toList.length = s.size := ba_len s
  rcases cA_cases hok with ⟨h1, hok2⟩ | ⟨h1, hok2⟩
  · rw [ble_t, hsz] at h1
    rw [cA_done, ble_t] at hok2
    obtain ⟨h2, hok3⟩ := hok2
    unfold nextS2 at hok3
    rw [cA_done] at hok3
    obtain ⟨g1, g2⟩ := hH.set (ro := ro) hb (by omega) hro (ab := bX (.sit s.data.toList.length (packB s.data.toList) (pos + 1))) (o := .stringIter s (pos + 1)) (.x rfl hq (.sit s (pos + 1)))
    refine ⟨.tuple #[.bool true, goInt pos, .int .i32 (byteAt (packB s.data.toList) pos)], _, μ, _, _, ?_, g1, g2, ?_, hok3.2⟩
    · unfold Instr.next
      simp only [Sem.run_bind, getObj_run ho (fun _ _ _ h => by cases h), Result.andThen_ok, sit_step h1 h2]
      rw [if_pos (show pos < s.size from h1)]
      simp only [Sem.run_bind, setObj_run ho (fun _ _ _ h => by cases h), Result.andThen_ok, Sem.run_pure]
    · refine VR.triple .t ?_ ?_
      · have := VR.int (μ := μ) .i64 pos (by omega)
        rw [bias_nat] at this
        exact this
      · rw [intV_eq]
        have := VR.int (μ := μ) .i32 (byteAt (packB s.data.toList) pos) (by omega)
        rw [bias_nat] at this
        exact this
  · have h1' : ¬ pos < s.size := by
      intro e
      rw [← hsz] at e
      have : Nat.ble (Nat.succ pos) s.data.toList.length = true := by rw [ble_t]; exact e
      rw [this] at h1; cases h1
    refine ⟨.tuple #[.bool false], w, μ, H, _, ?_, hH, .refl _ _ _ _, .tup1 .f, hok2⟩
    unfold Instr.next
    simp only [Sem.run_bind, getObj_run ho (fun _ _ _ h => by cases h), Result.andThen_ok]
    rw [if_neg h1']
    simp only [Sem.run_pure]

/-- the model's candidates, and its step -/
def cands (left : Array MapEntry) (since : Nat) : Array (Option MapEntry) :=
  (if (left.filter (·.born < since)).isEmpty then #[none] else #[]) ++ (left.filter (·.born < since) ++ left.filter (·.born ≥ since)).map some
def took (r m since clk : Nat) (seen : Array Nat) : Option (Option MapEntry) → Sem Value
  | some (some e) => do setObj r (.mapIter (some m) since (seen.push e.born) clk); pure (.tuple #[.bool true, e.key, e.val])
  | some none => pure (.tuple #[.bool false])
  | none => stuck "Next: no such candidate"
theorem nextM_sound {v : AV} {b since last : Nat} {seen : List Nat} {m mm : MB} {ty : TypeId} {k : KR} (hH : HR μ H w) (hb : μ v.a = some m) (hq : m.q = 0) (hro : ro ≤ v.a) (h3 : (hget H v.a).t = 3)
    (hmm : μ b = some mm) (ho : w.heap[m.c]? = some (.mapIter (some mm.c) since ⟨seen.reverse⟩ last)) (hok : nextM v H k b since seen last = .done) :
    EffOK ro μ H w ((Instr.next (.pointer (some ⟨m.c, 0, none⟩)) false ty).run P w) k := by
  unfold nextM at hok
  rw [cA_done] at hok
  obtain ⟨hm, hok⟩ := hok
  obtain ⟨ys, clk, k2, k3, k4, _, _⟩ := lookup_map hH hmm hm
  rw [k3] at hok
  rcases cA_cases hok with ⟨h1, hok2⟩ | ⟨h1, hok2⟩
  · cases hok2
  have hg := gone_eq k4 h1
  have hl := leftE_rel (seen := seen) k4
  have hleft : (ys.filter fun e => !(⟨seen.reverse⟩ : Array Nat).contains e.born).toList = ys.toList.filter fun e => !(⟨seen.reverse⟩ : Array Nat).contains e.born := Array.toList_filter
  rw [← hleft] at hl
  generalize hL : leftE seen (entsOf (axOf (hget H b))) = L at hl hok2
  have hrun : (Instr.next (.pointer (some ⟨m.c, 0, none⟩)) false ty).run P w =
      ((choose (.mapNext (cands (ys.filter fun e => !(⟨seen.reverse⟩ : Array Nat).contains e.born) since).size)).run P w).andThen fun i w' => (took m.c mm.c since clk ⟨seen.reverse⟩ (cands (ys.filter fun e => !(⟨seen.reverse⟩ : Array Nat).contains e.born) since)[i]?).run P w' := by
    unfold Instr.next
    simp only [Sem.run_bind, getObj_run ho (fun _ _ _ h => by cases h), getObj_run k2 (fun _ _ _ h => by cases h), Result.andThen_ok]
    rw [if_neg (by rw [hg]; simp)]
    rw [Sem.run_bind]
    rfl
  rw [hrun]
  generalize (ys.filter fun e => !(⟨seen.reverse⟩ : Array Nat).contains e.born) = left at hl ⊢
  cases L with
  | nil =>
    have hn : left = #[] := by
      have := hl.len
      apply Array.eq_empty_of_size_eq_zero
      simpa using this.symm
    subst hn
    have hk' : k (vTup [vF]) H = .done := hok2
    refine ⟨.tuple #[.bool false], w, μ, H, _, ?_, hH, .refl _ _ _ _, .tup1 .f, hk'⟩
    have hc : cands #[] since = #[none] := by simp [cands]
    rw [hc]
    rfl
  | cons e0 es0 =>
    have hok3 : cA (oldE since (e0 :: es0)) (eachE (nextE v H k b since clk seen) (e0 :: es0)) (.fail 151) = .done := hok2
    rw [cA_done, oldE_eq, eachE_done] at hok3
    obtain ⟨h4, h5⟩ := hok3
    generalize hL' : (e0 :: es0) = L' at hl h4 h5
    have hne : left.toList ≠ [] := by
      intro e; rw [e] at hl; have := hl.len; rw [← hL'] at this; simp at this
    have hborn : ∀ y ∈ left.toList, y.born < since := by
      intro y hy
      obtain ⟨i, hi, rfl⟩ := List.getElem_of_mem hy
      obtain ⟨e, a1, _, _, a4⟩ := hl.get (p := i) (y := left.toList[i]) (by simp [hi])
      rw [← a4]
      exact h4 e (List.mem_of_getElem? a1)
    have hold : left.filter (·.born < since) = left := by
      apply Array.filter_eq_self.2
      intro a ha
      simpa using hborn a (by simpa using ha)
    have hnew : left.filter (·.born ≥ since) = #[] := by
      apply Array.filter_eq_empty_iff.2
      intro a ha
      have := hborn a (by simpa using ha)
      simp [this]
    have hcand : cands left since = left.map some := by
      unfold cands
      rw [hold, hnew]
      have : left.isEmpty = false := by
        cases hh : left.isEmpty
        · rfl
        · exfalso; apply hne
          have := Array.isEmpty_iff.1 hh
          rw [this]
      rw [this]
      simp
    rw [hcand]
    have hpos : 0 < (left.map some).size := by
      rw [Array.size_map, ← Array.length_toList]
      exact List.length_pos_iff.2 hne
    obtain ⟨i, w', hi, hc, hw⟩ := choose_next (P := P) (w := w) _ hpos
    rw [hc, Result.andThen_ok]
    rw [Array.size_map] at hi
    have hget : (left.map some)[i]? = some (some left[i]) := by simp [hi]
    rw [hget]
    obtain ⟨e, a1, a2, a3, a4⟩ := hl.get (p := i) (y := left[i]) (by simp [hi])
    have hk := h5 e (List.mem_of_getElem? a1)
    unfold nextE at hk
    rw [a4] at hk
    have main : ∀ w1 : World, HR μ H w1 → w1.heap = w.heap → EffOK ro μ H w1 ((took m.c mm.c since clk ⟨seen.reverse⟩ (some (some left[i]))).run P w1) k := by
      intro w1 hH1 hw1
      obtain ⟨g1, g2⟩ := hH1.set (ro := ro) hb (by omega) hro (ab := bX (.mit (some b) since (left[i].born :: seen) clk)) (o := .mapIter (some mm.c) since ⟨(left[i].born :: seen).reverse⟩ clk) (.x rfl hq (.mit b mm since _ clk hmm))
      refine ⟨.tuple #[.bool true, left[i].key, left[i].val], _, μ, _, _, ?_, g1, g2, .triple .t a2 a3, hk⟩
      have hpush : ((⟨seen.reverse⟩ : Array Nat).push left[i].born) = ⟨(left[i].born :: seen).reverse⟩ := by
        apply Array.ext'
        simp
      simp only [took, hpush, Sem.run_bind, setObj_run (show w1.heap[m.c]? = some _ by rw [hw1]; exact ho) (fun _ _ _ h => by cases h), Result.andThen_ok, Sem.run_pure]
    rcases hw with rfl | rfl
    · exact main _ hH rfl
    · exact .drew hH (main _ hH.drew rfl)

theorem nextH_sound {isS : Bool} {v : AV} {x : Value} {ty : TypeId} {k : KR} (hH : HR μ H w) (hg : ∀ b, b < ro → (hget H b).t ≠ 3) (hv : VR μ v x) (hok : nextH isS v H k = .done) :
    EffOK ro μ H w ((Instr.next x isS ty).run P w) k := by
  unfold nextH at hok
  rw [cA_done, bA_true, beq_t, beq_t] at hok
  obtain ⟨⟨h1, h2⟩, hok⟩ := hok
  obtain ⟨m, hm, rfl, _⟩ := hv.inv_ptr h1
  have hn : axOf (hget H v.a) ≠ .none := fun e => by rw [e] at hok; cases hok
  obtain ⟨o, ho, hx, h3, hq⟩ := hH.x hm hn
  have hro : ro ≤ v.a := Nat.le_of_not_lt fun e => hg _ e h3
  rw [h2, hq]
  generalize axOf (hget H v.a) = ax at hok hx
  cases hx with
  | map => cases hok
  | loop => cases hok
  | dfr => cases hok
  | mit0 since seen last =>
    cases isS
    · refine ⟨.tuple #[.bool false], w, μ, H, _, ?_, hH, .refl _ _ _ _, .tup1 .f, hok⟩
      unfold Instr.next
      simp only [Nat.add_zero, Sem.run_bind, getObj_run ho (fun _ _ _ h => by cases h), Result.andThen_ok, Sem.run_pure]
    · cases hok
  | mit b mm since seen last hmm =>
    cases isS
    · exact nextM_sound hH hm hq hro h3 hmm ho hok
    · cases hok
  | sit s pos =>
    cases isS
    · cases hok
    · exact nextS_sound hH hm hq hro h3 ho hok
theorem entry2_rel {es : List Ent} {ys : List MapEntry} {st : Nat} (h : ERs μ es ys) (hok : Ok (entry2 es st)) : ∃ y, ys.find? (·.born == st) = some y ∧ VR μ (entry2 es st) (.tuple #[y.key, y.val]) := by
  induction h with
  | nil => simp [entry2, Ok, vX] at hok
  | @cons e y es ys h1 h2 h3 h4 ih =>
    have e1 : entry2 (e :: es) st = cV (Nat.beq e.n st) (vTup [e.k, e.v]) (entry2 es st) := rfl
    rw [e1] at hok ⊢
    rw [List.find?_cons, ← h3]
    have e2 : (e.n == st) = Nat.beq e.n st := by rw [Bool.eq_iff_iff, beq_iff_eq, beq_t]
    rw [e2]
    cases hb : Nat.beq e.n st with
    | true => exact ⟨y, rfl, .pair h1 h2⟩
    | false => rw [hb, cV_false] at hok; exact ih hok
theorem entryH_sound {v : AV} {x : Value} (hH : HR μ H w) (hv : VR μ v x) (hok : Ok (entryH v H)) :
    ∃ z, (Instr.entry x).run P w = .ok z w ∧ VR μ (entryH v H) z := by
  unfold entryH at hok ⊢
  cases hc : bA (Nat.beq v.t 3) (Nat.beq v.b 0) with
  | false => rw [hc] at hok; simp [cV, Ok, vX] at hok
  | true =>
    rw [hc, cV_true] at hok
    rw [cV_true]
    rw [bA_true, beq_t, beq_t] at hc
    obtain ⟨h1, h2⟩ := hc
    obtain ⟨m, hm, rfl, _⟩ := hv.inv_ptr h1
    have hn : axOf (hget H v.a) ≠ .none := fun e => by rw [e] at hok; simp [entryX, Ok, vX] at hok
    obtain ⟨o, ho, hx, h3, hq⟩ := hH.x hm hn
    rw [h2, hq]
    generalize axOf (hget H v.a) = ax at hok hx ⊢
    cases hx with
    | map => simp [entryX, Ok, vX] at hok
    | loop => simp [entryX, Ok, vX] at hok
    | dfr => simp [entryX, Ok, vX] at hok
    | mit0 since seen last => simp [entryX, Ok, vX] at hok
    | sit s pos => simp [entryX, Ok, vX] at hok
    | mit b mm since seen last hmm =>
      cases seen with
      | nil => simp [entryX, Ok, vX] at hok
      | cons st seen =>
        have e1 : entryX H (.mit (some b) since (st :: seen) last) = cV (bA (isMap (axOf (hget H b))) (Nat.beq (clkOf (axOf (hget H b))) last)) (entry2 (entsOf (axOf (hget H b))) st) vX := rfl
        rw [e1] at hok ⊢
        cases hc : bA (isMap (axOf (hget H b))) (Nat.beq (clkOf (axOf (hget H b))) last) with
        | false => rw [hc] at hok; simp [cV, Ok, vX] at hok
        | true =>
          rw [hc, cV_true] at hok
          rw [cV_true]
          rw [bA_true, beq_t] at hc
          obtain ⟨ys, clk, k2, k3, k4, _⟩ := lookup_map hH hmm hc.1
          obtain ⟨y, y1, y2⟩ := entry2_rel k4 hok
          refine ⟨_, ?_, y2⟩
          have hcl : clk = last := by rw [← k3]; exact hc.2
          have hback : (⟨(st :: seen).reverse⟩ : Array Nat).back? = some st := by simp
          have hf : ys.find? (·.born == st) = some y := by rw [← Array.find?_toList]; exact y1
          unfold Instr.entry
          simp only [Nat.add_zero, Sem.run_bind, getObj_run ho (fun _ _ _ h => by cases h), Result.andThen_ok, hback, getObj_run k2 (fun _ _ _ h => by cases h), hcl, bne_self_eq_false, Bool.false_eq_true, if_false, hf, Sem.run_pure]
end Go.Ev

/-! Proofs, part 13: equality, and what is left of the pure operations. -/
namespace Go.Ev
set_option linter.unusedVariables false
set_option linter.unusedSimpArgs false
variable {μ : Mu} {P : Program} {w : World} {H : Heap} {ro : Nat}

/-! ## Equality -/
def eqOp (neg : Bool) : BinOp := if neg then .neq else .eql
noncomputable def eqR' (neg : Bool) (r : Nat) : AV := cT neg (neV r) (eqV r)
theorem eqR_bad {neg : Bool} : ¬ Ok (eqR' neg 2) := by cases neg <;> exact (by decide : ¬ (99 : Nat) ≤ 24)
theorem eqR_val {neg b : Bool} : VR μ (eqR' neg (cT b 1 0)) (.bool (b != neg)) := by cases neg <;> cases b <;> first | exact .t | exact .f
/-- the operation, run -/
def eqRun (P : Program) (w : World) (neg : Bool) (t : TypeId) (xo yo : Operand) (x y : Value) : Result Value :=
  (do eqGuard (eqOp neg) t xo yo x y; binOp (eqOp neg) t x y : Sem Value).run P w
theorem eq_fin {neg b : Bool} {t : TypeId} {xo yo : Operand} {x y : Value} {r : Nat} (hr : r = cT b 1 0) (hg : (eqGuard (eqOp neg) t xo yo x y).run P w = .ok () w) (he : (Op.equal t x y).run P w = .ok b w)
    (h1 : binOp .eql t x y = (do pure (.bool (← Op.equal t x y)))) (h2 : binOp .neq t x y = (do pure (.bool (!(← Op.equal t x y))))) :
    ∃ z, eqRun P w neg t xo yo x y = .ok z w ∧ VR μ (eqR' neg r) z := by
  subst hr
  refine ⟨.bool (b != neg), ?_, eqR_val⟩
  unfold eqRun
  rw [Sem.run_bind, hg, Result.andThen_ok]
  cases neg
  · show (binOp .eql t x y).run P w = _
    rw [h1, Sem.run_bind, he, Result.andThen_ok, Sem.run_pure]
    cases b <;> rfl
  · show (binOp .neq t x y).run P w = _
    rw [h2, Sem.run_bind, he, Result.andThen_ok, Sem.run_pure]
    cases b <;> rfl
theorem eqBool_sound {neg : Bool} {t : TypeId} {xo yo : Operand} {v u : AV} {x y : Value} (ht : P.underlying t = some .bool) (hv : VR μ v x) (hu : VR μ u y) (hok : Ok (eqR' neg (eqBool v u))) :
    ∃ z, eqRun P w neg t xo yo x y = .ok z w ∧ VR μ (eqR' neg (eqBool v u)) z := by
  unfold eqBool at hok ⊢
  cases hc : bA (Nat.ble v.t 1) (Nat.ble u.t 1) with
  | false => rw [hc] at hok; exact absurd hok eqR_bad
  | true =>
    rw [bA_true, ble_t, ble_t] at hc
    obtain ⟨a, rfl, rfl⟩ := hv.inv_bool hc.1
    obtain ⟨b, rfl, rfl⟩ := hu.inv_bool hc.2
    refine eq_fin (b := a == b) ?_ (by cases neg <;> rfl) ?_ rfl rfl
    · cases a <;> cases b <;> rfl
    · unfold Op.equal Op.maxDepth Op.equalIn
      simp only [Sem.run_bind, und_run ht, Result.andThen_ok, Sem.run_pure]
theorem eqNil6_sound {neg : Bool} {t e : TypeId} {xo yo : Operand} {v u : AV} {x y : Value} (ht : P.underlying t = some (.slice e)) (hv : VR μ v x) (hu : VR μ u y) (hok : Ok (eqR' neg (eqNil 6 5 v u))) :
    ∃ z, eqRun P w neg t xo yo x y = .ok z w ∧ VR μ (eqR' neg (eqNil 6 5 v u)) z := by
  unfold eqNil at hok ⊢
  by_cases h1 : v.t = 6
  · obtain ⟨rfl, rfl⟩ := hv.inv_nils h1
    by_cases h2 : u.t = 6
    · obtain ⟨rfl, rfl⟩ := hu.inv_nils h2
      exact eq_fin (b := true) rfl (by cases neg <;> rfl) (by unfold Op.equal Op.maxDepth Op.equalIn; simp only [Sem.run_bind, und_run ht, Result.andThen_ok, Sem.run_pure]; rfl) rfl rfl
    · by_cases h3 : u.t = 5
      · obtain ⟨m, off, cap, _, rfl, _⟩ := hu.inv_sl h3
        rw [h3]
        exact eq_fin (b := false) rfl (by cases neg <;> rfl) (by unfold Op.equal Op.maxDepth Op.equalIn; simp only [Sem.run_bind, und_run ht, Result.andThen_ok, Sem.run_pure]; rfl) rfl rfl
      · rw [beq_f h2, beq_f h3] at hok; exact absurd hok eqR_bad
  · by_cases h2 : v.t = 5
    · obtain ⟨m, off, cap, _, rfl, _⟩ := hv.inv_sl h2
      by_cases h3 : u.t = 6
      · obtain ⟨rfl, rfl⟩ := hu.inv_nils h3
        rw [h2]
        exact eq_fin (b := false) rfl (by cases neg <;> rfl) (by unfold Op.equal Op.maxDepth Op.equalIn; simp only [Sem.run_bind, und_run ht, Result.andThen_ok, Sem.run_pure]) rfl rfl
      · rw [beq_f h3, h2] at hok; exact absurd hok eqR_bad
    · rw [beq_f h1, beq_f h2] at hok; exact absurd hok eqR_bad
theorem eqNil24_sound {neg : Bool} {t a b : TypeId} {xo yo : Operand} {v u : AV} {x y : Value} (ht : P.underlying t = some (.map a b)) (hv : VR μ v x) (hu : VR μ u y) (hok : Ok (eqR' neg (eqNil 24 7 v u))) :
    ∃ z, eqRun P w neg t xo yo x y = .ok z w ∧ VR μ (eqR' neg (eqNil 24 7 v u)) z := by
  unfold eqNil at hok ⊢
  by_cases h1 : v.t = 24
  · obtain ⟨rfl, rfl⟩ := hv.inv_nilm h1
    by_cases h2 : u.t = 24
    · obtain ⟨rfl, rfl⟩ := hu.inv_nilm h2
      exact eq_fin (b := true) rfl (by cases neg <;> rfl) (by unfold Op.equal Op.maxDepth Op.equalIn; simp only [Sem.run_bind, und_run ht, Result.andThen_ok, Sem.run_pure]; rfl) rfl rfl
    · by_cases h3 : u.t = 7
      · obtain ⟨m, _, rfl, _⟩ := hu.inv_map h3
        rw [h3]
        exact eq_fin (b := false) rfl (by cases neg <;> rfl) (by unfold Op.equal Op.maxDepth Op.equalIn; simp only [Sem.run_bind, und_run ht, Result.andThen_ok, Sem.run_pure]; rfl) rfl rfl
      · rw [beq_f h2, beq_f h3] at hok; exact absurd hok eqR_bad
  · by_cases h2 : v.t = 7
    · obtain ⟨m, _, rfl, _⟩ := hv.inv_map h2
      by_cases h3 : u.t = 24
      · obtain ⟨rfl, rfl⟩ := hu.inv_nilm h3
        rw [h2]
        exact eq_fin (b := false) rfl (by cases neg <;> rfl) (by unfold Op.equal Op.maxDepth Op.equalIn; simp only [Sem.run_bind, und_run ht, Result.andThen_ok, Sem.run_pure]) rfl rfl
      · rw [beq_f h3, h2] at hok; exact absurd hok eqR_bad
    · rw [beq_f h1, beq_f h2] at hok; exact absurd hok eqR_bad
theorem eqNil18_sound {neg : Bool} {t : TypeId} {a b c} {xo yo : Operand} {v u : AV} {x y : Value} (ht : P.underlying t = some (.func a b c)) (hv : VR μ v x) (hu : VR μ u y) (hok : Ok (eqR' neg (eqNil 18 16 v u))) :
    ∃ z, eqRun P w neg t xo yo x y = .ok z w ∧ VR μ (eqR' neg (eqNil 18 16 v u)) z := by
  unfold eqNil at hok ⊢
  by_cases h1 : v.t = 18
  · obtain ⟨rfl, rfl⟩ := hv.inv_nilf h1
    by_cases h2 : u.t = 18
    · obtain ⟨rfl, rfl⟩ := hu.inv_nilf h2
      exact eq_fin (b := true) rfl (by cases neg <;> rfl) (by unfold Op.equal Op.maxDepth Op.equalIn; simp only [Sem.run_bind, und_run ht, Result.andThen_ok, Sem.run_pure]) rfl rfl
    · by_cases h3 : u.t = 16
      · obtain ⟨xs, ys, rfl, _⟩ := hu.inv_fn h3
        rw [h3]
        exact eq_fin (b := false) rfl (by cases neg <;> rfl) (by unfold Op.equal Op.maxDepth Op.equalIn; simp only [Sem.run_bind, und_run ht, Result.andThen_ok, Sem.run_pure]) rfl rfl
      · rw [beq_f h2, beq_f h3] at hok; exact absurd hok eqR_bad
  · by_cases h2 : v.t = 16
    · obtain ⟨xs, ys, rfl, _⟩ := hv.inv_fn h2
      by_cases h3 : u.t = 18
      · obtain ⟨rfl, rfl⟩ := hu.inv_nilf h3
        rw [h2]
        exact eq_fin (b := false) rfl (by cases neg <;> rfl) (by unfold Op.equal Op.maxDepth Op.equalIn; simp only [Sem.run_bind, und_run ht, Result.andThen_ok, Sem.run_pure]) rfl rfl
      · rw [beq_f h3, h2] at hok; exact absurd hok eqR_bad
    · rw [beq_f h1, beq_f h2] at hok; exact absurd hok eqR_bad
theorem isC_match {o : Operand} (h : isC o = true) : (match o with | .const _ => true | _ => false) = true := by cases o <;> first | rfl | cases h
theorem eqIfc_sound {neg : Bool} {t : TypeId} {ms} {xo yo : Operand} {v u : AV} {x y : Value} (ht : P.underlying t = some (.interface ms)) (hv : VR μ v x) (hu : VR μ u y) (hok : Ok (eqR' neg (eqIfc (isC xo || isC yo) v u))) :
    ∃ z, eqRun P w neg t xo yo x y = .ok z w ∧ VR μ (eqR' neg (eqIfc (isC xo || isC yo) v u)) z := by
  unfold eqIfc at hok ⊢
  by_cases h1 : v.t = 20
  · obtain ⟨rfl, rfl⟩ := hv.inv_nili h1
    by_cases h2 : u.t = 20
    · obtain ⟨rfl, rfl⟩ := hu.inv_nili h2
      cases hc : isC xo || isC yo with
      | false => rw [hc] at hok; exact absurd hok eqR_bad
      | true =>
        refine eq_fin (b := true) rfl ?_ (by unfold Op.equal Op.maxDepth Op.equalIn; simp only [Sem.run_bind, und_run ht, Result.andThen_ok, Sem.run_pure]) rfl rfl
        cases neg <;> cases xo <;> cases yo <;> first | rfl | cases hc
    · by_cases h3 : u.t = 19
      · obtain ⟨_, yy, rfl, _⟩ := hu.inv_ifc h3
        rw [h3]
        exact eq_fin (b := false) rfl (by cases neg <;> rfl) (by unfold Op.equal Op.maxDepth Op.equalIn; simp only [Sem.run_bind, und_run ht, Result.andThen_ok, Sem.run_pure]) rfl rfl
      · rw [beq_f h2, beq_f h3] at hok; exact absurd hok eqR_bad
  · by_cases h2 : v.t = 19
    · obtain ⟨_, xx, rfl, _⟩ := hv.inv_ifc h2
      by_cases h3 : u.t = 20
      · obtain ⟨rfl, rfl⟩ := hu.inv_nili h3
        rw [h2]
        exact eq_fin (b := false) rfl (by cases neg <;> rfl) (by unfold Op.equal Op.maxDepth Op.equalIn; simp only [Sem.run_bind, und_run ht, Result.andThen_ok, Sem.run_pure]) rfl rfl
      · rw [beq_f h3, h2] at hok; exact absurd hok eqR_bad
    · rw [beq_f h1, beq_f h2] at hok; exact absurd hok eqR_bad
theorem eqPP_sound {neg : Bool} {t e : TypeId} {xo yo : Operand} {v u : AV} {x y : Value} (ht : P.underlying t = some (.pointer e)) (hs : szOf P e ≠ 0) (hH : HR μ H w) (hv : VR μ v x) (hu : VR μ u y) (hok : Ok (eqR' neg (eqPP v u H))) :
    ∃ z, eqRun P w neg t xo yo x y = .ok z w ∧ VR μ (eqR' neg (eqPP v u H)) z := by
  unfold eqPP at hok ⊢
  by_cases h1 : v.t = 4
  · obtain ⟨rfl, rfl⟩ := hv.inv_nilp h1
    by_cases h2 : u.t = 4
    · obtain ⟨rfl, rfl⟩ := hu.inv_nilp h2
      exact eq_fin (b := true) rfl (by cases neg <;> rfl) (by unfold Op.equal Op.maxDepth Op.equalIn; simp only [Sem.run_bind, und_run ht, Result.andThen_ok, Sem.run_pure]; rfl) rfl rfl
    · by_cases h3 : u.t = 3
      · obtain ⟨m, _, rfl, _⟩ := hu.inv_ptr h3
        rw [h3]
        exact eq_fin (b := false) rfl (by cases neg <;> rfl) (by unfold Op.equal Op.maxDepth Op.equalIn; simp only [Sem.run_bind, und_run ht, Result.andThen_ok, Sem.run_pure]; rfl) rfl rfl
      · rw [beq_f h2, beq_f h3] at hok; exact absurd hok eqR_bad
  · by_cases h2 : v.t = 3
    · obtain ⟨m, hm, rfl, _⟩ := hv.inv_ptr h2
      by_cases h3 : u.t = 4
      · obtain ⟨rfl, rfl⟩ := hu.inv_nilp h3
        rw [h2]
        exact eq_fin (b := false) rfl (by cases neg <;> rfl) (by unfold Op.equal Op.maxDepth Op.equalIn; simp only [Sem.run_bind, und_run ht, Result.andThen_ok, Sem.run_pure]) rfl rfl
      · by_cases h4 : u.t = 3
        · obtain ⟨m', hm', rfl, _⟩ := hu.inv_ptr h4
          rw [h2, h4] at hok ⊢
          have hok' : Ok (eqR' neg (eqPtr H v u)) := hok
          show ∃ z, _ ∧ VR μ (eqR' neg (eqPtr H v u)) z
          unfold eqPtr at hok' ⊢
          cases hc : bA (Nat.beq (hget H v.a).t 1) (Nat.beq (hget H u.a).t 1) with
          | false => rw [hc] at hok'; exact absurd hok' eqR_bad
          | true =>
            rw [bA_true, beq_t, beq_t] at hc
            obtain ⟨c, ec, k1, k2, k3, k4, k5, k6⟩ := hH.row hm hc.1
            obtain ⟨c', ec', j1, j2, j3, j4, j5, j6⟩ := hH.row hm' hc.2
            rw [cT_true]
            have hsz := size_run (P := P) (w := w) (szOf_pos (Nat.pos_of_ne_zero hs))
            cases hb : bA (Nat.beq v.a u.a) (Nat.beq v.b u.b) with
            | true =>
              rw [bA_true, beq_t, beq_t] at hb
              obtain ⟨hb1, hb2⟩ := hb
              have hmm : m = m' := by rw [hb1] at hm; rw [hm] at hm'; exact Option.some.inj hm'
              subst hmm
              rw [← hb2]
              refine eq_fin (b := true) rfl (by cases neg <;> rfl) ?_ rfl rfl
              unfold Op.equal Op.maxDepth Op.equalIn
              simp only [Sem.run_bind, und_run ht, Result.andThen_ok, hsz, ne_eq, hs, not_false_eq_true, if_true, run_sameAddr_same]
            | false =>
              refine eq_fin (b := false) rfl (by cases neg <;> rfl) ?_ rfl rfl
              have hne : (⟨m.c, v.b + m.q, none⟩ : Addr) ≠ ⟨m'.c, u.b + m'.q, none⟩ := by
                intro e
                have e1 : m.c = m'.c := congrArg Addr.block e
                have e2 : v.b + m.q = u.b + m'.q := congrArg Addr.off e
                have e3 := hH.inj _ _ _ _ hm hm' (by omega) (by omega) e1
                have : bA (Nat.beq v.a u.a) (Nat.beq v.b u.b) = true := by rw [bA_true, beq_t, beq_t]; exact ⟨e3, by omega⟩
                rw [this] at hb; cases hb
              unfold Op.equal Op.maxDepth Op.equalIn
              have hsa := run_sameAddr_other (P := P) (w := w) hne k1 j1
              simp only [Sem.run_bind, und_run ht, Result.andThen_ok, hsz, ne_eq, hs, not_false_eq_true, if_true]
              exact hsa
        · rw [beq_f h3, beq_f h4, h2] at hok; exact absurd hok eqR_bad
    · rw [beq_f h1, beq_f h2] at hok; exact absurd hok eqR_bad
end Go.Ev

/-! Proofs, part 14: what is left of the pure operations. -/
namespace Go.Ev
set_option linter.unusedVariables false
set_option linter.unusedSimpArgs false
variable {μ : Mu} {P : Program} {w : World} {H : Heap} {ro : Nat}

theorem nat11 (n : Nat) : VR μ (vNat 11 n) (goInt n) := VR.of_nat .i64 n
theorem cpl_sound {k : IntKind} {v : AV} {x : Value} (hv : VR μ v x) (hok : Ok (cplH (kc k) v)) : ∃ z, (Op.unary .xor x).run P w = .ok z w ∧ VR μ (cplH (kc k) v) z := by
  unfold cplH at hok ⊢
  rw [ok_cV, beq_t] at hok
  obtain ⟨h1, _⟩ := hok
  obtain ⟨n, hn, rfl, rfl⟩ := hv.inv_int h1
  rw [show Nat.beq (vInt (kc k) (biasI n)).t (kc k) = true by rw [beq_t]; rfl, cV_true]
  have h2 : ((2 ^ k.bits : Nat) : Int) = (2 : Int) ^ k.bits := by simp
  have e1 : Nat.mod (Nat.add (biasI n) 9223372036854775808) (Nat.pow 2 (kbits (kc k))) = (BitVec.ofInt k.bits n).toNat := by
    have tn : ∀ (z : Nat) (c : Int), (z : Int) = c % (2 ^ k.bits : Int) → z = (BitVec.ofInt k.bits c).toNat := fun z c hz => by
      rw [BitVec.toNat_ofInt, h2, ← hz]; rfl
    exact tn _ n (mod_bias k hn)
  have e2 : BitVec.ofInt k.bits (if k.signed then -1 else k.max) = BitVec.allOnes k.bits := by cases k <;> rfl
  have e3 : (BitVec.allOnes k.bits ^^^ BitVec.ofInt k.bits n).toNat = 2 ^ k.bits - 1 - (BitVec.ofInt k.bits n).toNat := by
    rw [BitVec.allOnes_xor, BitVec.toNat_not]
  refine ⟨.int k (k.wrap (BitVec.allOnes k.bits ^^^ BitVec.ofInt k.bits n).toNat), ?_, ?_⟩
  · show (Op.intBits .xor k (if k.signed then -1 else k.max) n).run P w = _
    unfold Op.intBits
    simp only [e2, Sem.run_pure]
  · rw [show (vInt (kc k) (biasI n)).a = biasI n from rfl]
    have hlt : (BitVec.allOnes k.bits ^^^ BitVec.ofInt k.bits n).toNat < 2 ^ k.bits := (BitVec.allOnes k.bits ^^^ BitVec.ofInt k.bits n).isLt
    rw [e1, kbits_kc, Nat.sub_eq, Nat.sub_eq, show Nat.pow 2 k.bits = 2 ^ k.bits from rfl, ← e3, intV_eq]
    rw [residue_eq k _ ((BitVec.allOnes k.bits ^^^ BitVec.ofInt k.bits n).toNat : Int) (by rw [Int.emod_eq_of_lt (by omega) (by rw [← h2]; omega)])]
    exact vr_int k _
theorem cvIS_sound {v : AV} {x : Value} (hv : VR μ v x) (hok : Ok (cvIS v)) : ∃ j n z, x = .int j n ∧ (Conv.intToString n).run P w = .ok z w ∧ VR μ (cvIS v) z := by
  unfold cvIS at hok ⊢
  rw [ok_cV, ok_cV, bA_true, ble_t, ble_t] at hok
  obtain ⟨h1, ⟨h2, h3⟩, _⟩ := hok
  obtain ⟨j, n, hn, rfl, rfl⟩ := isI_inv hv h1
  have h2' : 9223372036854775808 ≤ biasI n := h2
  have h3' : biasI n ≤ 9223372036854775935 := h3
  have hp := bias_pos h2'
  have hlt : n < 128 := by unfold biasI at h3'; omega
  rw [h1, cV_true, show bA (Nat.ble 9223372036854775808 (vInt (kc j) (biasI n)).a) (Nat.ble (vInt (kc j) (biasI n)).a 9223372036854775935) = true by rw [bA_true, ble_t, ble_t]; exact ⟨h2, h3⟩, cV_true]
  refine ⟨j, n, _, rfl, rfl, ?_⟩
  have e1 : Nat.sub (vInt (kc j) (biasI n)).a 9223372036854775808 = n.toNat := bias_sub hp
  rw [e1]
  have hval : Utf8.valid n = true := by unfold Utf8.valid; simp; omega
  have henc : Utf8.encode n = ⟨#[UInt8.ofNat n.toNat]⟩ := by
    unfold Utf8.encode
    rw [hval]
    simp only [if_true]
    rw [if_pos (by omega)]
  rw [henc]
  have := VR.str (μ := μ) ⟨#[UInt8.ofNat n.toNat]⟩
  have e2 : packB [UInt8.ofNat n.toNat] = n.toNat := by
    rw [packB_cons]
    show (UInt8.ofNat n.toNat).toNat + 256 * 0 = _
    have : (UInt8.ofNat n.toNat).toNat = n.toNat := by rw [UInt8.toNat_ofNat']; omega
    omega
  have e3 : (⟨#[UInt8.ofNat n.toNat]⟩ : ByteArray).data.toList = [UInt8.ofNat n.toNat] := rfl
  rw [e3, e2] at this
  exact this
theorem cvSS_sound {v : AV} {x : Value} (hv : VR μ v x) (hok : Ok (cvSS v)) : ∃ s, x = .string s ∧ VR μ (cvSS v) x := by
  unfold cvSS at hok ⊢
  rw [ok_cV, beq_t] at hok
  obtain ⟨s, rfl, rfl⟩ := hv.inv_str hok.1
  exact ⟨s, rfl, hv⟩
/-! ## len, cap -/
theorem lenStr_sound {t ty : TypeId} {v : AV} {x : Value} {ats : Array TypeId} (ht : P.underlying t = some .string) (ha : ats[0]? = some t) (hv : VR μ v x) (hok : Ok (lenStr v)) :
    ∃ z, (Builtin.len_ ats ty #[x]).run P w = .ok z w ∧ VR μ (lenStr v) z := by
  unfold lenStr at hok ⊢
  rw [ok_cV, beq_t] at hok
  obtain ⟨s, rfl, rfl⟩ := hv.inv_str hok.1
  refine ⟨goInt s.size, ?_, ?_⟩
  · unfold Builtin.len_
    rw [ha]
    simp only [List.getElem?_toArray, List.getElem?_cons_zero, Sem.run_bind, und_run ht, Result.andThen_ok, Sem.run_pure]
  · rw [show Nat.beq (vStr s.data.toList.length (packB s.data.toList)).t 2 = true from rfl, cV_true, ← ba_len]
    exact nat11 _
theorem lenSl_sound {t ty e : TypeId} {v : AV} {x : Value} {ats : Array TypeId} (ht : P.underlying t = some (.slice e)) (ha : ats[0]? = some t) (hv : VR μ v x) (hok : Ok (lenSl v)) :
    ∃ z, (Builtin.len_ ats ty #[x]).run P w = .ok z w ∧ VR μ (lenSl v) z := by
  unfold lenSl at hok ⊢
  rcases ok_cV' hok with ⟨h1, _, e1⟩ | ⟨_, h2, e1⟩
  · rw [beq_t] at h1
    obtain ⟨m, off, cap, _, rfl, _⟩ := hv.inv_sl h1
    refine ⟨goInt v.c, ?_, by rw [e1]; exact nat11 _⟩
    unfold Builtin.len_
    rw [ha]
    simp only [List.getElem?_toArray, List.getElem?_cons_zero, Sem.run_bind, und_run ht, Result.andThen_ok, Sem.run_pure]
  · rw [ok_cV, beq_t] at h2
    obtain ⟨rfl, rfl⟩ := hv.inv_nils h2.1
    refine ⟨goInt 0, ?_, nat11 0⟩
    unfold Builtin.len_
    rw [ha]
    simp only [List.getElem?_toArray, List.getElem?_cons_zero, Sem.run_bind, und_run ht, Result.andThen_ok, Sem.run_pure]
    rfl
theorem lenArr_sound {t ty e : TypeId} {n : Nat} {x : Value} {ats : Array TypeId} (ht : P.underlying t = some (.array n e)) (ha : ats[0]? = some t) :
    ∃ z, (Builtin.len_ ats ty #[x]).run P w = .ok z w ∧ VR μ (vNat 11 n) z := by
  refine ⟨goInt n, ?_, nat11 n⟩
  unfold Builtin.len_
  rw [ha]
  simp only [List.getElem?_toArray, List.getElem?_cons_zero, Sem.run_bind, und_run ht, Result.andThen_ok, Sem.run_pure]
theorem lenPArr_sound {t ty a e : TypeId} {n : Nat} {x : Value} {ats : Array TypeId} (ht : P.underlying t = some (.pointer a)) (hp : P.underlying a = some (.array n e)) (ha : ats[0]? = some t) :
    ∃ z, (Builtin.len_ ats ty #[x]).run P w = .ok z w ∧ VR μ (vNat 11 n) z := by
  refine ⟨goInt n, ?_, nat11 n⟩
  unfold Builtin.len_
  rw [ha]
  simp only [List.getElem?_toArray, List.getElem?_cons_zero, Sem.run_bind, und_run ht, und_run hp, Result.andThen_ok, Sem.run_pure]
theorem lenMap_sound {t ty a b : TypeId} {v : AV} {x : Value} {ats : Array TypeId} (ht : P.underlying t = some (.map a b)) (ha : ats[0]? = some t) (hH : HR μ H w) (hv : VR μ v x) (hok : Ok (lenMap v H)) :
    ∃ z, (Builtin.len_ ats ty #[x]).run P w = .ok z w ∧ VR μ (lenMap v H) z := by
  unfold lenMap at hok ⊢
  rcases ok_cV' hok with ⟨h1, _, e1⟩ | ⟨_, h2, e1⟩
  · rw [beq_t] at h1
    obtain ⟨rfl, rfl⟩ := hv.inv_nilm h1
    refine ⟨goInt 0, ?_, nat11 0⟩
    unfold Builtin.len_
    rw [ha]
    simp only [List.getElem?_toArray, List.getElem?_cons_zero, Sem.run_bind, und_run ht, Result.andThen_ok, Sem.run_pure]
  · rw [ok_cV] at h2
    obtain ⟨m, ys, clk, k1, rfl, k2, k3, k4, _⟩ := mapB_inv hH hv h2.1
    refine ⟨goInt ys.size, ?_, ?_⟩
    · unfold Builtin.len_
      rw [ha]
      simp only [List.getElem?_toArray, List.getElem?_cons_zero, Sem.run_bind, und_run ht, Result.andThen_ok, getObj_run k2 (fun _ _ _ h => by cases h), Sem.run_pure]
    · rw [e1, h2.1, cV_true, lenE_eq, k4.len, Array.length_toList]
      exact nat11 _
theorem capSl_sound {t ty e : TypeId} {v : AV} {x : Value} {ats : Array TypeId} (ht : P.underlying t = some (.slice e)) (ha : ats[0]? = some t) (hv : VR μ v x) (hok : Ok (capSl v)) :
    ∃ z, (Builtin.cap_ ats ty #[x]).run P w = .ok z w ∧ VR μ (capSl v) z := by
  unfold capSl at hok ⊢
  rcases ok_cV' hok with ⟨h1, h2, e1⟩ | ⟨_, h2, e1⟩
  · rw [beq_t] at h1
    obtain ⟨m, off, cap, _, rfl, hveq, hcap, hoff⟩ := hv.inv_sl h1
    rcases ok_cV' h2 with ⟨h3, h4, _⟩ | ⟨h3, _, e2⟩
    · simp [Ok, vX] at h4
    · refine ⟨goInt cap, ?_, ?_⟩
      · unfold Builtin.cap_
        rw [ha]
        simp only [List.getElem?_toArray, List.getElem?_cons_zero, Sem.run_bind, und_run ht, Result.andThen_ok, Sem.run_pure]
      · rw [e1, e2]
        have hd : v.d = cap + 1 := by
          rcases hoff.2 with h | h
          · exact h
          · rw [h.1] at h3; cases h3
        rw [hd]
        exact nat11 _
  · rw [ok_cV, beq_t] at h2
    obtain ⟨rfl, rfl⟩ := hv.inv_nils h2.1
    refine ⟨goInt 0, ?_, nat11 0⟩
    unfold Builtin.cap_
    rw [ha]
    simp only [List.getElem?_toArray, List.getElem?_cons_zero, Sem.run_bind, und_run ht, Result.andThen_ok, Sem.run_pure]
    rfl

/-! ## the rest -/
theorem extH_sound {i : Nat} {v : AV} {x : Value} (hv : VR μ v x) (hok : Ok (extH i v)) : ∃ z, (Instr.extract x i).run P w = .ok z w ∧ VR μ (extH i v) z := by
  unfold extH at hok ⊢
  rw [ok_cV, beq_t] at hok
  obtain ⟨xs, rfl, hl, _⟩ := hv.inv_tup hok.1
  obtain ⟨x, hx, hxv⟩ := hl.nth hok.2
  refine ⟨x, ?_, ?_⟩
  · unfold Instr.extract
    simp only [List.getElem?_toArray, hx, Sem.run_pure]
  · rw [show Nat.beq v.t 22 = true by rw [beq_t]; exact hok.1, cV_true]; exact hxv
theorem okV_sound {ok : Bool} {v : AV} {x : Value} (hv : VR μ v x) : VR μ (okV ok v) (if ok then .tuple #[x, .bool true] else x) := by
  cases ok
  · exact hv
  · exact hv.pair .t
theorem isIfc_inv {t : TypeId} (h : isIfc P t = false) : ∃ d, P.underlying t = some d ∧ ∀ ms, d ≠ .interface ms := by
  unfold isIfc at h
  split at h
  · cases h
  · cases h
  · rename_i hn hd
    cases hu : P.underlying t with
    | none => exact absurd hu (by intro h; exact hd h)
    | some d => exact ⟨d, rfl, fun ms e => hn ms (by rw [hu, e])⟩
theorem asH_sound {xt a : TypeId} {ok : Bool} {v : AV} {x : Value} (ha : isIfc P a = false) (hz : Ok (zeroA P a)) (hv : VR μ v x) (hok : Ok (asH (zeroA P a) a ok v)) :
    ∃ z, (Instr.typeAssert x xt a ok).run P w = .ok z w ∧ VR μ (asH (zeroA P a) a ok v) z := by
  obtain ⟨d, hd, hni⟩ := isIfc_inv ha
  obtain ⟨z0, z1, z2⟩ := zero_run (μ := μ) (w := w) hz
  unfold asH at hok ⊢
  rcases ok_cV' hok with ⟨h1, h2, e1⟩ | ⟨h1, h2, e1⟩
  · rw [beq_t] at h1
    obtain ⟨u, y, rfl, hl, hu, hveq⟩ := hv.inv_ifc h1
    rw [e1]
    rcases ok_cV' h2 with ⟨h3, h4, e2⟩ | ⟨h3, h4, e2⟩
    · rw [beq_t] at h3
      rw [e2, hl]
      refine ⟨if ok then .tuple #[y, .bool true] else y, ?_, ?_⟩
      · unfold Instr.typeAssert
        rw [Sem.run_bind, und_run hd, Result.andThen_ok]
        cases d <;> first | exact absurd rfl (hni _) | (simp only [h3, if_true, Sem.run_pure])
      · exact okV_sound hu
    · rw [e2]
      rw [ok_cV] at h4
      obtain ⟨rfl, _⟩ := h4
      have hne : v.a ≠ a := fun e => by rw [e] at h3; simp at h3
      refine ⟨.tuple #[z0, .bool false], ?_, z2.pair .f⟩
      unfold Instr.typeAssert
      rw [Sem.run_bind, und_run hd, Result.andThen_ok]
      cases d <;> first | exact absurd rfl (hni _) | (simp only [hne, if_true, if_false, Sem.run_bind, z1, Result.andThen_ok, Sem.run_pure])
  · rw [ok_cV, bA_true, beq_t] at h2
    obtain ⟨⟨h3, rfl⟩, _⟩ := h2
    obtain ⟨rfl, rfl⟩ := hv.inv_nili h3
    refine ⟨.tuple #[z0, .bool false], ?_, z2.pair .f⟩
    unfold Instr.typeAssert
    rw [Sem.run_bind, und_run hd, Result.andThen_ok]
    cases d <;> first | exact absurd rfl (hni _) | (simp only [if_true, Sem.run_bind, z1, Result.andThen_ok, Sem.run_pure])
theorem ifcH_sound {t : TypeId} {v : AV} {x : Value} (ht : isIfc P t = false) (hv : VR μ v x) (hok : Ok (ifcH t v)) : ∃ z, (Instr.makeInterface t x).run P w = .ok z w ∧ VR μ (ifcH t v) z := by
  obtain ⟨d, hd, hni⟩ := isIfc_inv ht
  unfold ifcH at hok ⊢
  rw [ok_cV] at hok
  refine ⟨.iface t x, ?_, ?_⟩
  · unfold Instr.makeInterface
    rw [Sem.run_bind, und_run hd, Result.andThen_ok]
    cases d <;> first | exact absurd rfl (hni _) | rfl
  · rw [hok.1, cV_true]; exact .ifc t v x hv
theorem okL_inv : ∀ {l : List AV}, okL l = true → ∀ v ∈ l, Ok v := by
  intro l
  induction l with
  | nil => intro _ v hv; simp at hv
  | cons u l ih =>
    intro h v hv
    have h' : bA (Nat.ble u.t 24) (okL l) = true := h
    rw [bA_true, ble_t] at h'
    rcases List.mem_cons.1 hv with rfl | hv
    · exact h'.1
    · exact ih h'.2 v hv
theorem pick_sound {v a b : AV} {x y z : Value} (hv : VR μ v x) (ha : Ok a → VR μ a y) (hb : Ok b → VR μ b z) (hok : Ok (cV (Nat.beq v.t 1) a (cV (Nat.beq v.t 0) b vX))) :
    ∃ r, (do pure (if ← asBool x then y else z) : Sem Value).run P w = .ok r w ∧ VR μ (cV (Nat.beq v.t 1) a (cV (Nat.beq v.t 0) b vX)) r := by
  rcases ok_cV' hok with ⟨h1, h2, e1⟩ | ⟨_, h2, e1⟩
  · rw [beq_t] at h1
    obtain rfl := hv.inv_t h1
    exact ⟨y, rfl, by rw [e1]; exact ha h2⟩
  · rw [ok_cV, beq_t] at h2
    obtain rfl := hv.inv_f h2.1
    refine ⟨z, rfl, ?_⟩
    rw [e1, show Nat.beq v.t 0 = true by rw [beq_t]; exact h2.1, cV_true]
    exact hb h2.2
theorem mm2_ok {isMax : Bool} {v u : AV} (h : Ok (mm2 isMax v u)) : Ok v ∧ Ok u := by
  unfold mm2 at h
  rw [ok_cV, bA_true, beq_t] at h
  obtain ⟨⟨h1, h2⟩, _⟩ := h
  unfold isI at h1
  rw [bA_true, ble_t, ble_t] at h1
  unfold Ok; omega
theorem mm_fold {isMax : Bool} : ∀ (us : List AV) (xs : List Value) (v : AV) (x : Value), us.length = xs.length → (∀ (i : Nat) (u : AV) (y : Value), us[i]? = some u → xs[i]? = some y → Ok u → VR μ u y) → (Ok v → VR μ v x) → Ok (us.foldl (mm2 isMax) v) →
    ∃ z, ((if isMax then xs.foldlM Builtin.max2 x else xs.foldlM Builtin.min2 x : Sem Value)).run P w = .ok z w ∧ VR μ (us.foldl (mm2 isMax) v) z
  | [], [], v, x, _, _, hv, hok => ⟨x, by cases isMax <;> rfl, hv hok⟩
  | u :: us, y :: ys, v, x, hl, hr, hv, hok => by
    have key : ∀ (us : List AV) (v : AV), Ok (us.foldl (mm2 isMax) v) → Ok v := by
      intro us
      induction us with
      | nil => intro v h; exact h
      | cons u us ih => intro v h; exact (mm2_ok (ih _ h)).1
    have h1 := key us _ hok
    obtain ⟨h2, h3⟩ := mm2_ok h1
    obtain ⟨z, hz, hzv⟩ := mm2_sound (P := P) (w := w) (hv h2) (hr 0 u y rfl rfl h3) h1
    obtain ⟨r, hr1, hr2⟩ := mm_fold us ys (mm2 isMax v u) z (by simpa using hl) (fun i u' y' a b => hr (i + 1) u' y' (by simpa using a) (by simpa using b)) (fun _ => hzv) hok
    refine ⟨r, ?_, hr2⟩
    cases isMax
    · show (List.foldlM Builtin.min2 x (y :: ys)).run P w = _
      rw [List.foldlM_cons, Sem.run_bind]
      have hz' : (Builtin.min2 x y).run P w = .ok z w := hz
      rw [hz', Result.andThen_ok]; exact hr1
    · show (List.foldlM Builtin.max2 x (y :: ys)).run P w = _
      rw [List.foldlM_cons, Sem.run_bind]
      have hz' : (Builtin.max2 x y).run P w = .ok z w := hz
      rw [hz', Result.andThen_ok]; exact hr1
theorem map_new : NewR μ w (bX (.map [] 0)) vMap (.map (some w.heap.size)) (.map #[] 0) ⟨w.heap.size, 0, 0, 0⟩ :=
  ⟨rfl, .x rfl rfl (.map _ _ _ .nil), fun μ' b hb => .map b _ hb⟩
theorem makeMap_sound {t : TypeId} : ∃ z o m, (Instr.makeMap t none).run P w = .ok z (w.alloc o) ∧ NewR μ w (bX (.map [] 0)) vMap z o m := by
  refine ⟨_, _, _, ?_, map_new⟩
  unfold Instr.makeMap
  simp only [Sem.run_bind, Sem.run_pure, Result.andThen_ok, run_newObj]
  rfl
end Go.Ev
