/- An evaluator of the model in forms that the kernel reckons with quickly; nothing is proved here. -/
import GoSem.Claims
set_option linter.constructorNameAsVariable false
set_option linter.unusedVariables false
set_option linter.unusedSimpArgs false
set_option linter.unusedSectionVars false
/-! The evaluator, part 1: values, temporaries, heap. In forms that the kernel likes: structures, small named functions, recursors. -/
noncomputable section
set_option linter.unusedVariables false
namespace Go.Ev

/-! ## Values: one structure for all
tags: 0 false · 1 true · 2 string (a bytes, b the bytes packed) · 3 pointer (a block, b cell) · 4 nil pointer · 5 slice (a block, b cell, c length,
d capacity + 1, or 0: not known) · 6 nil slice · 7 map (a block) · 8 .. 15 int of kind t - 8 (a: the number + 2^63) · 16 function (a, l first, m captured) ·
17 yield (a block) · 18 nil function · 19 interface (a type, l [value]) · 20 nil interface · 21 struct or array (a how many, l cells) · 22 tuple (l) ·
24 nil map · 99 no value -/
structure AV where
  t : Nat
  a : Nat
  b : Nat
  c : Nat
  d : Nat
  l : List AV
  m : List AV
  deriving Inhabited

def B63 : Nat := 9223372036854775808
def vF : AV := ⟨0, 0, 0, 0, 0, [], []⟩
def vT : AV := ⟨1, 0, 0, 0, 0, [], []⟩
def vStr (n d : Nat) : AV := ⟨2, n, d, 0, 0, [], []⟩
def vPtr (b o : Nat) : AV := ⟨3, b, o, 0, 0, [], []⟩
def vNilp : AV := ⟨4, 0, 0, 0, 0, [], []⟩
def vSl (b o n c : Nat) : AV := ⟨5, b, o, n, c, [], []⟩
def vNils : AV := ⟨6, 0, 0, 0, 0, [], []⟩
def vMap (b : Nat) : AV := ⟨7, b, 0, 0, 0, [], []⟩
/-- an int: `t` is 8 + its kind, `x` the number + 2^63 -/
def vInt (t x : Nat) : AV := ⟨t, x, 0, 0, 0, [], []⟩
def vFn (f : Nat) (l m : List AV) : AV := ⟨16, f, 0, 0, 0, l, m⟩
def vYld (b : Nat) : AV := ⟨17, b, 0, 0, 0, [], []⟩
def vNilf : AV := ⟨18, 0, 0, 0, 0, [], []⟩
def vIfc (t : Nat) (v : AV) : AV := ⟨19, t, 0, 0, 0, [v], []⟩
def vNili : AV := ⟨20, 0, 0, 0, 0, [], []⟩
def vAgg (n : Nat) (cs : List AV) : AV := ⟨21, n, 0, 0, 0, cs, []⟩
def vTup (vs : List AV) : AV := ⟨22, 0, 0, 0, 0, vs, []⟩
def vNilm : AV := ⟨24, 0, 0, 0, 0, [], []⟩
/-- no value -/
def vX : AV := ⟨99, 0, 0, 0, 0, [], []⟩
def undefA : AV := vTup []
/-- an int that is no less than 0, and its kind's tag -/
def vNat (t n : Nat) : AV := ⟨t, Nat.add n 9223372036854775808, 0, 0, 0, [], []⟩
def kc : IntKind → Nat
  | .i8 => 8 | .i16 => 9 | .i32 => 10 | .i64 => 11 | .u8 => 12 | .u16 => 13 | .u32 => 14 | .u64 => 15

/-! ## Case distinctions -/
def cT {α : Type} (b : Bool) (x y : α) : α := Bool.rec (motive := fun _ => α) y x b
def cV (b : Bool) (x y : AV) : AV := Bool.rec (motive := fun _ => AV) y x b
def cL (b : Bool) (x y : List AV) : List AV := Bool.rec (motive := fun _ => List AV) y x b
def bA (x y : Bool) : Bool := Bool.rec (motive := fun _ => Bool) false y x
def vB (b : Bool) : AV := cV b vT vF
def sel4 {α : Type} (n : Nat) (a b c d : α) : α := cT (Nat.ble n 1) (cT (Nat.beq n 0) a b) (cT (Nat.beq n 2) c d)

/-! ## Temporaries -/
structure Q8 (α : Type) where
  a : α
  b : α
  c : α
  d : α
  e : α
  f : α
  g : α
  h : α
def QT : Nat → Type
  | 0 => AV
  | n + 1 => Q8 (QT n)
def q8 {α : Type} (x : α) : Q8 α := ⟨x, x, x, x, x, x, x, x⟩
def qFill : (n : Nat) → QT n
  | 0 => undefA
  | n + 1 => q8 (α := QT n) (qFill n)

/-! ## Blocks and heap -/
inductive HT (α : Type) where
  | e
  | n (v : α) (a b c d : HT α)
structure Q4 (α : Type) where
  a : α
  b : α
  c : α
  d : α
inductive Jmp where
  | exit (id : Nat)
  | goto (l : Nat)
  | ret
structure Ent where
  k : AV
  v : AV
  n : Nat
/-- what is rare in a block -/
inductive AX where
  | none
  | map (es : List Ent) (clk : Nat)
  | mit (m : Option Nat) (since : Nat) (seen : List Nat) (last : Nat)
  | sit (n d pos : Nat)
  | loop (st : Nat) (pend : Option Jmp) (d : Nat) (tm : QT d) (ps : List Nat) (asg body : Code) (fn dblk nt : Nat)
  | dfr (isOpen : Bool)
/-- a block: tag 0 dead · 1 a row (n how many, l the cells) · 2 an array (n elements of s cells, l the element that is everywhere else, e the elements) · 3 other -/
structure AB where
  t : Nat
  n : Nat
  s : Nat
  l : List AV
  e : HT (List AV)
  x : AX
def bDead : AB := ⟨0, 0, 0, [], .e, .none⟩
def bRow (n : Nat) (cs : List AV) : AB := ⟨1, n, 0, cs, .e, .none⟩
def bArr (s n : Nat) (df : List AV) (e : HT (List AV)) : AB := ⟨2, n, s, df, e, .none⟩
def bX (x : AX) : AB := ⟨3, 0, 0, [], .e, x⟩
/-- what a block holds that is rare -/
def axOf (ab : AB) : AX := Bool.rec (motive := fun _ => AX) .none ab.x (Nat.beq ab.t 3)
def QH : Nat → Type
  | 0 => AB
  | n + 1 => Q4 (QH n)
structure Heap where
  nx : Nat
  t : QH 8

inductive Ans where
  | fail (why : Nat)
  | done
inductive Ex where
  | j (x : Jmp)
  | pan (v : AV)
abbrev KR := AV → Heap → Ans
abbrev CallT := Nat → List AV → Heap → KR → KR → Ans
def cA (b : Bool) (x y : Ans) : Ans := Bool.rec (motive := fun _ => Ans) y x b
/-- both -/
def andA (x y : Ans) : Ans := Ans.rec (motive := fun _ => Ans) (fun w => .fail w) y x
/-- the tag asked for, or failure -/
def tA (v : AV) (t : Nat) (x : Ans) : Ans := cA (Nat.beq v.t t) x (.fail t)
def lA (l : List AV) (z : Ans) (s : AV → List AV → Ans) : Ans := List.rec (motive := fun _ => Ans) z (fun v r _ => s v r) l
/-- no value stands for a missing one -/
def okA (v : AV) (x : Ans) : Ans := cA (Nat.ble v.t 24) x (.fail 99)

/-! ## Heap -/
def hg1 (t : QH 1) (i : Nat) : AB := sel4 (α := AB) (Nat.land i 3) (Q4.a (α := AB) t) (Q4.b (α := AB) t) (Q4.c (α := AB) t) (Q4.d (α := AB) t)
def hg2 (t : QH 2) (i : Nat) : AB := hg1 (sel4 (α := QH 1) (Nat.land (Nat.shiftRight i 2) 3) (Q4.a (α := QH 1) t) (Q4.b (α := QH 1) t) (Q4.c (α := QH 1) t) (Q4.d (α := QH 1) t)) i
def hg3 (t : QH 3) (i : Nat) : AB := hg2 (sel4 (α := QH 2) (Nat.land (Nat.shiftRight i 4) 3) (Q4.a (α := QH 2) t) (Q4.b (α := QH 2) t) (Q4.c (α := QH 2) t) (Q4.d (α := QH 2) t)) i
def hg4 (t : QH 4) (i : Nat) : AB := hg3 (sel4 (α := QH 3) (Nat.land (Nat.shiftRight i 6) 3) (Q4.a (α := QH 3) t) (Q4.b (α := QH 3) t) (Q4.c (α := QH 3) t) (Q4.d (α := QH 3) t)) i
def hg5 (t : QH 5) (i : Nat) : AB := hg4 (sel4 (α := QH 4) (Nat.land (Nat.shiftRight i 8) 3) (Q4.a (α := QH 4) t) (Q4.b (α := QH 4) t) (Q4.c (α := QH 4) t) (Q4.d (α := QH 4) t)) i
def hg6 (t : QH 6) (i : Nat) : AB := hg5 (sel4 (α := QH 5) (Nat.land (Nat.shiftRight i 10) 3) (Q4.a (α := QH 5) t) (Q4.b (α := QH 5) t) (Q4.c (α := QH 5) t) (Q4.d (α := QH 5) t)) i
def hg7 (t : QH 7) (i : Nat) : AB := hg6 (sel4 (α := QH 6) (Nat.land (Nat.shiftRight i 12) 3) (Q4.a (α := QH 6) t) (Q4.b (α := QH 6) t) (Q4.c (α := QH 6) t) (Q4.d (α := QH 6) t)) i
def hg8 (t : QH 8) (i : Nat) : AB := hg7 (sel4 (α := QH 7) (Nat.land (Nat.shiftRight i 14) 3) (Q4.a (α := QH 7) t) (Q4.b (α := QH 7) t) (Q4.c (α := QH 7) t) (Q4.d (α := QH 7) t)) i
def hget (H : Heap) (b : Nat) : AB := hg8 H.t b
def put4 {α : Type} (n : Nat) (x a b c d : α) : Q4 α := sel4 n ⟨x, b, c, d⟩ ⟨a, x, c, d⟩ ⟨a, b, x, d⟩ ⟨a, b, c, x⟩
def q4K {α β : Type} (t : Q4 α) (k : α → α → α → α → β) : β := Q4.rec (motive := fun _ => β) k t
def hs1k (i : Nat) (x a b c d : AB) : QH 1 := put4 (α := AB) (Nat.land i 3) x a b c d
def hs1 (t : QH 1) (i : Nat) (x : AB) : QH 1 := q4K (α := AB) t (hs1k i x)
def hs2k (i : Nat) (x : AB) (a b c d : QH 1) : QH 2 := put4 (α := QH 1) (Nat.land (Nat.shiftRight i 2) 3) (hs1 (sel4 (α := QH 1) (Nat.land (Nat.shiftRight i 2) 3) a b c d) i x) a b c d
def hs2 (t : QH 2) (i : Nat) (x : AB) : QH 2 := q4K (α := QH 1) t (hs2k i x)
def hs3k (i : Nat) (x : AB) (a b c d : QH 2) : QH 3 := put4 (α := QH 2) (Nat.land (Nat.shiftRight i 4) 3) (hs2 (sel4 (α := QH 2) (Nat.land (Nat.shiftRight i 4) 3) a b c d) i x) a b c d
def hs3 (t : QH 3) (i : Nat) (x : AB) : QH 3 := q4K (α := QH 2) t (hs3k i x)
def hs4k (i : Nat) (x : AB) (a b c d : QH 3) : QH 4 := put4 (α := QH 3) (Nat.land (Nat.shiftRight i 6) 3) (hs3 (sel4 (α := QH 3) (Nat.land (Nat.shiftRight i 6) 3) a b c d) i x) a b c d
def hs4 (t : QH 4) (i : Nat) (x : AB) : QH 4 := q4K (α := QH 3) t (hs4k i x)
def hs5k (i : Nat) (x : AB) (a b c d : QH 4) : QH 5 := put4 (α := QH 4) (Nat.land (Nat.shiftRight i 8) 3) (hs4 (sel4 (α := QH 4) (Nat.land (Nat.shiftRight i 8) 3) a b c d) i x) a b c d
def hs5 (t : QH 5) (i : Nat) (x : AB) : QH 5 := q4K (α := QH 4) t (hs5k i x)
def hs6k (i : Nat) (x : AB) (a b c d : QH 5) : QH 6 := put4 (α := QH 5) (Nat.land (Nat.shiftRight i 10) 3) (hs5 (sel4 (α := QH 5) (Nat.land (Nat.shiftRight i 10) 3) a b c d) i x) a b c d
def hs6 (t : QH 6) (i : Nat) (x : AB) : QH 6 := q4K (α := QH 5) t (hs6k i x)
def hs7k (i : Nat) (x : AB) (a b c d : QH 6) : QH 7 := put4 (α := QH 6) (Nat.land (Nat.shiftRight i 12) 3) (hs6 (sel4 (α := QH 6) (Nat.land (Nat.shiftRight i 12) 3) a b c d) i x) a b c d
def hs7 (t : QH 7) (i : Nat) (x : AB) : QH 7 := q4K (α := QH 6) t (hs7k i x)
def hs8k (i : Nat) (x : AB) (a b c d : QH 7) : QH 8 := put4 (α := QH 7) (Nat.land (Nat.shiftRight i 14) 3) (hs7 (sel4 (α := QH 7) (Nat.land (Nat.shiftRight i 14) 3) a b c d) i x) a b c d
def hs8 (t : QH 8) (i : Nat) (x : AB) : QH 8 := q4K (α := QH 7) t (hs8k i x)
def hset (H : Heap) (b : Nat) (x : AB) : Heap := ⟨H.nx, hs8 H.t b x⟩
def hnew (H : Heap) (x : AB) : Heap := ⟨Nat.succ H.nx, hs8 H.t H.nx x⟩
/-- a new block: its number, the heap -/
def hnewK (H : Heap) (x : AB) (k : Nat → Heap → Ans) : Ans := cA (Nat.ble H.nx 65534) (k H.nx (hnew H x)) (.fail 900)
def q4 {α : Type} (x : α) : Q4 α := ⟨x, x, x, x⟩
def heap0 (n : Nat) : Heap := ⟨n, q4 (α := QH 7) (q4 (α := QH 6) (q4 (α := QH 5) (q4 (α := QH 4) (q4 (α := QH 3) (q4 (α := QH 2) (q4 (α := QH 1) (q4 bDead)))))))⟩

/-! ## Trees of elements -/
def htg2 (ih : HT (List AV) → Nat → List AV) (a b c d : HT (List AV)) (j : Nat) : List AV := ih (sel4 (Nat.land j 3) a b c d) (Nat.shiftRight j 2)
def htg1 (ih : HT (List AV) → Nat → List AV) (i : Nat) (v : List AV) (a b c d : HT (List AV)) : List AV :=
  Nat.rec (motive := fun _ => List AV) v (fun j _ => htg2 ih a b c d j) i
def htgS (df : List AV) (ih : HT (List AV) → Nat → List AV) (t : HT (List AV)) (i : Nat) : List AV :=
  HT.casesOn (motive := fun _ => List AV) t df (htg1 ih i)
def htGet (df : List AV) (f : Nat) : HT (List AV) → Nat → List AV :=
  Nat.rec (motive := fun _ => HT (List AV) → Nat → List AV) (fun _ _ => df) (fun _ ih => htgS df ih) f
def htc (m : Nat) (v : List AV) (x a b c d : HT (List AV)) : HT (List AV) := sel4 m (.n v x b c d) (.n v a x c d) (.n v a b x d) (.n v a b c x)
def hts2 (ih : HT (List AV) → Nat → List AV → HT (List AV)) (x v : List AV) (a b c d : HT (List AV)) (j : Nat) : HT (List AV) :=
  htc (Nat.land j 3) v (ih (sel4 (Nat.land j 3) a b c d) (Nat.shiftRight j 2) x) a b c d
def hts1 (ih : HT (List AV) → Nat → List AV → HT (List AV)) (i : Nat) (x v : List AV) (a b c d : HT (List AV)) : HT (List AV) :=
  Nat.rec (motive := fun _ => HT (List AV)) (.n x a b c d) (fun j _ => hts2 ih x v a b c d j) i
def htsS (df : List AV) (ih : HT (List AV) → Nat → List AV → HT (List AV)) (t : HT (List AV)) (i : Nat) (x : List AV) : HT (List AV) :=
  HT.casesOn (motive := fun _ => HT (List AV)) t (hts1 ih i x df .e .e .e .e) (hts1 ih i x)
def htSet (df : List AV) (f : Nat) : HT (List AV) → Nat → List AV → HT (List AV) :=
  Nat.rec (motive := fun _ => HT (List AV) → Nat → List AV → HT (List AV)) (fun t _ _ => t) (fun _ ih => htsS df ih) f
def HD : Nat := 22
/-- no array is as long as this -/
def HM : Nat := 1099511627776

/-! ## Getters and setters, compiled -/
structure Gt (n : Nat) where
  f : QT n → AV
structure St (n : Nat) where
  f : QT n → AV → (QT n → Ans) → Ans
def gA {n : Nat} (g : QT n → AV) (t : QT (n + 1)) : AV := g (Q8.a (α := QT n) t)
def gB {n : Nat} (g : QT n → AV) (t : QT (n + 1)) : AV := g (Q8.b (α := QT n) t)
def gC {n : Nat} (g : QT n → AV) (t : QT (n + 1)) : AV := g (Q8.c (α := QT n) t)
def gD {n : Nat} (g : QT n → AV) (t : QT (n + 1)) : AV := g (Q8.d (α := QT n) t)
def gE {n : Nat} (g : QT n → AV) (t : QT (n + 1)) : AV := g (Q8.e (α := QT n) t)
def gF {n : Nat} (g : QT n → AV) (t : QT (n + 1)) : AV := g (Q8.f (α := QT n) t)
def gG {n : Nat} (g : QT n → AV) (t : QT (n + 1)) : AV := g (Q8.g (α := QT n) t)
def gH {n : Nat} (g : QT n → AV) (t : QT (n + 1)) : AV := g (Q8.h (α := QT n) t)
def sA1 {n : Nat} (k : QT (n + 1) → Ans) (b c d e f g h x : QT n) : Ans := k (Q8.mk (α := QT n) x b c d e f g h)
def sA2 {n : Nat} (s : QT n → AV → (QT n → Ans) → Ans) (y : AV) (k : QT (n + 1) → Ans) (a b c d e f g h : QT n) : Ans := s a y (sA1 k b c d e f g h)
def sA {n : Nat} (s : QT n → AV → (QT n → Ans) → Ans) (t : QT (n + 1)) (y : AV) (k : QT (n + 1) → Ans) : Ans := Q8.rec (α := QT n) (motive := fun _ => Ans) (sA2 s y k) t
def sB1 {n : Nat} (k : QT (n + 1) → Ans) (a c d e f g h x : QT n) : Ans := k (Q8.mk (α := QT n) a x c d e f g h)
def sB2 {n : Nat} (s : QT n → AV → (QT n → Ans) → Ans) (y : AV) (k : QT (n + 1) → Ans) (a b c d e f g h : QT n) : Ans := s b y (sB1 k a c d e f g h)
def sB {n : Nat} (s : QT n → AV → (QT n → Ans) → Ans) (t : QT (n + 1)) (y : AV) (k : QT (n + 1) → Ans) : Ans := Q8.rec (α := QT n) (motive := fun _ => Ans) (sB2 s y k) t
def sC1 {n : Nat} (k : QT (n + 1) → Ans) (a b d e f g h x : QT n) : Ans := k (Q8.mk (α := QT n) a b x d e f g h)
def sC2 {n : Nat} (s : QT n → AV → (QT n → Ans) → Ans) (y : AV) (k : QT (n + 1) → Ans) (a b c d e f g h : QT n) : Ans := s c y (sC1 k a b d e f g h)
def sC {n : Nat} (s : QT n → AV → (QT n → Ans) → Ans) (t : QT (n + 1)) (y : AV) (k : QT (n + 1) → Ans) : Ans := Q8.rec (α := QT n) (motive := fun _ => Ans) (sC2 s y k) t
def sD1 {n : Nat} (k : QT (n + 1) → Ans) (a b c e f g h x : QT n) : Ans := k (Q8.mk (α := QT n) a b c x e f g h)
def sD2 {n : Nat} (s : QT n → AV → (QT n → Ans) → Ans) (y : AV) (k : QT (n + 1) → Ans) (a b c d e f g h : QT n) : Ans := s d y (sD1 k a b c e f g h)
def sD {n : Nat} (s : QT n → AV → (QT n → Ans) → Ans) (t : QT (n + 1)) (y : AV) (k : QT (n + 1) → Ans) : Ans := Q8.rec (α := QT n) (motive := fun _ => Ans) (sD2 s y k) t
def sE1 {n : Nat} (k : QT (n + 1) → Ans) (a b c d f g h x : QT n) : Ans := k (Q8.mk (α := QT n) a b c d x f g h)
def sE2 {n : Nat} (s : QT n → AV → (QT n → Ans) → Ans) (y : AV) (k : QT (n + 1) → Ans) (a b c d e f g h : QT n) : Ans := s e y (sE1 k a b c d f g h)
def sE {n : Nat} (s : QT n → AV → (QT n → Ans) → Ans) (t : QT (n + 1)) (y : AV) (k : QT (n + 1) → Ans) : Ans := Q8.rec (α := QT n) (motive := fun _ => Ans) (sE2 s y k) t
def sF1 {n : Nat} (k : QT (n + 1) → Ans) (a b c d e g h x : QT n) : Ans := k (Q8.mk (α := QT n) a b c d e x g h)
def sF2 {n : Nat} (s : QT n → AV → (QT n → Ans) → Ans) (y : AV) (k : QT (n + 1) → Ans) (a b c d e f g h : QT n) : Ans := s f y (sF1 k a b c d e g h)
def sF {n : Nat} (s : QT n → AV → (QT n → Ans) → Ans) (t : QT (n + 1)) (y : AV) (k : QT (n + 1) → Ans) : Ans := Q8.rec (α := QT n) (motive := fun _ => Ans) (sF2 s y k) t
def sG1 {n : Nat} (k : QT (n + 1) → Ans) (a b c d e f h x : QT n) : Ans := k (Q8.mk (α := QT n) a b c d e f x h)
def sG2 {n : Nat} (s : QT n → AV → (QT n → Ans) → Ans) (y : AV) (k : QT (n + 1) → Ans) (a b c d e f g h : QT n) : Ans := s g y (sG1 k a b c d e f h)
def sG {n : Nat} (s : QT n → AV → (QT n → Ans) → Ans) (t : QT (n + 1)) (y : AV) (k : QT (n + 1) → Ans) : Ans := Q8.rec (α := QT n) (motive := fun _ => Ans) (sG2 s y k) t
def sH1 {n : Nat} (k : QT (n + 1) → Ans) (a b c d e f g x : QT n) : Ans := k (Q8.mk (α := QT n) a b c d e f g x)
def sH2 {n : Nat} (s : QT n → AV → (QT n → Ans) → Ans) (y : AV) (k : QT (n + 1) → Ans) (a b c d e f g h : QT n) : Ans := s h y (sH1 k a b c d e f g)
def sH {n : Nat} (s : QT n → AV → (QT n → Ans) → Ans) (t : QT (n + 1)) (y : AV) (k : QT (n + 1) → Ans) : Ans := Q8.rec (α := QT n) (motive := fun _ => Ans) (sH2 s y k) t
def gId (t : QT 0) : AV := t
def sId (_ : QT 0) (v : AV) (k : QT 0 → Ans) : Ans := k v
def mkGt : (n : Nat) → Nat → Gt n
  | 0, _ => ⟨gId⟩
  | n + 1, i =>
    match Nat.mod i 8 with
    | 0 => ⟨gA (mkGt n (Nat.div i 8)).f⟩
    | 1 => ⟨gB (mkGt n (Nat.div i 8)).f⟩
    | 2 => ⟨gC (mkGt n (Nat.div i 8)).f⟩
    | 3 => ⟨gD (mkGt n (Nat.div i 8)).f⟩
    | 4 => ⟨gE (mkGt n (Nat.div i 8)).f⟩
    | 5 => ⟨gF (mkGt n (Nat.div i 8)).f⟩
    | 6 => ⟨gG (mkGt n (Nat.div i 8)).f⟩
    | _ => ⟨gH (mkGt n (Nat.div i 8)).f⟩
def mkSt : (n : Nat) → Nat → St n
  | 0, _ => ⟨sId⟩
  | n + 1, i =>
    match Nat.mod i 8 with
    | 0 => ⟨sA (mkSt n (Nat.div i 8)).f⟩
    | 1 => ⟨sB (mkSt n (Nat.div i 8)).f⟩
    | 2 => ⟨sC (mkSt n (Nat.div i 8)).f⟩
    | 3 => ⟨sD (mkSt n (Nat.div i 8)).f⟩
    | 4 => ⟨sE (mkSt n (Nat.div i 8)).f⟩
    | 5 => ⟨sF (mkSt n (Nat.div i 8)).f⟩
    | 6 => ⟨sG (mkSt n (Nat.div i 8)).f⟩
    | _ => ⟨sH (mkSt n (Nat.div i 8)).f⟩
def gt (d i : Nat) : Gt d := mkGt d i
def st (d i : Nat) : St d := mkSt d i
end Go.Ev
end

/-! The evaluator, part 2: what the operations compute. -/
noncomputable section
set_option linter.unusedVariables false
namespace Go.Ev

/-! ## Constants -/
def packB : List UInt8 → Nat
  | [] => 0
  | b :: l => Nat.add b.toNat (Nat.mul 256 (packB l))
/-- an integer and 2^63 -/
def biasI (n : Int) : Nat := (n + 9223372036854775808).toNat
def unbias (x : Nat) : Int := (x : Int) - 9223372036854775808
mutual
def ofV : Value → AV
  | .bool b => vB b
  | .int k n => cV (decide (-9223372036854775808 ≤ n)) (vInt (kc k) (biasI n)) vX
  | .string s => vStr s.data.toList.length (packB s.data.toList)
  | .pointer none => vNilp
  | .slice none 0 0 => vNils
  | .map none => vNilm
  | .nilFunc => vNilf
  | .nilIface => vNili
  | .iface t v => cV (Nat.ble (ofV v).t 24) (vIfc t (ofV v)) vX
  | .agg ⟨cs⟩ => cV ((ofVs cs).all fun v => bA (Nat.ble v.t 24) (bA (!Nat.beq v.t 21) (!Nat.beq v.t 22))) (vAgg (ofVs cs).length (ofVs cs)) vX
  | .tuple ⟨vs⟩ => cV ((ofVs vs).all fun v => Nat.ble v.t 24) (vTup (ofVs vs)) vX
  | _ => vX
def ofVs : List Value → List AV
  | [] => []
  | v :: vs => ofV v :: ofVs vs
end

/-! ## Lists of cells -/
def nthZ (cs : List AV) : AV := List.rec (motive := fun _ => AV) vX (fun v _ _ => v) cs
def nthS (ih : List AV → AV) (cs : List AV) : AV := List.rec (motive := fun _ => AV) vX (fun _ r _ => ih r) cs
/-- the i-th -/
def nthV (i : Nat) : List AV → AV := Nat.rec (motive := fun _ => List AV → AV) nthZ (fun _ ih => nthS ih) i
def takeZ (_ : List AV) : List AV := []
def takeS (ih : List AV → List AV) (cs : List AV) : List AV := List.rec (motive := fun _ => List AV) [] (fun v r _ => v :: ih r) cs
def takeL (n : Nat) : List AV → List AV := Nat.rec (motive := fun _ => List AV → List AV) takeZ (fun _ ih => takeS ih) n
def idL (cs : List AV) : List AV := cs
def dropS (ih : List AV → List AV) (cs : List AV) : List AV := List.rec (motive := fun _ => List AV) [] (fun _ r _ => ih r) cs
def dropL (n : Nat) : List AV → List AV := Nat.rec (motive := fun _ => List AV → List AV) idL (fun _ ih => dropS ih) n
def tailL (cs : List AV) : List AV := List.rec (motive := fun _ => List AV) [] (fun _ r _ => r) cs
def overS (v : AV) (ih : List AV → List AV) (cs : List AV) : List AV := v :: ih (tailL cs)
/-- vs in the place of the first cells -/
def overL (vs : List AV) : List AV → List AV := List.rec (motive := fun _ => List AV → List AV) idL (fun v _ ih => overS v ih) vs
/-- .. of those behind the first n -/
def spliceL (n : Nat) (vs : List AV) : List AV → List AV := Nat.rec (motive := fun _ => List AV → List AV) (overL vs) (fun _ ih => takeS ih) n
def nilB (cs : List AV) : Bool := List.rec (motive := fun _ => Bool) true (fun _ _ _ => false) cs
def lenS (ih : List AV → Bool) (cs : List AV) : Bool := List.rec (motive := fun _ => Bool) false (fun _ r _ => ih r) cs
/-- there are n -/
def lenIs (n : Nat) : List AV → Bool := Nat.rec (motive := fun _ => List AV → Bool) nilB (fun _ ih => lenS ih) n
def aggV (n : Nat) (cs : List AV) : AV := cV (lenIs n cs) (vAgg n cs) vX
def rangeL (n o len : Nat) (cs : List AV) : List AV := cL (bA (Nat.beq o 0) (Nat.beq n len)) cs (takeL n (dropL o cs))
def okS (v : AV) (ih : Bool) : Bool := bA (Nat.ble v.t 24) ih
def okL (vs : List AV) : Bool := List.rec (motive := fun _ => Bool) true (fun v _ ih => okS v ih) vs

/-! ## Integers: kind's tag t, numbers with 2^63 added -/
def kbits : Nat → Nat
  | 8 => 8 | 9 => 16 | 10 => 32 | 11 => 64 | 12 => 8 | 13 => 16 | 14 => 32 | _ => 64
def ksigned (t : Nat) : Bool := Nat.ble t 11
/-- the least and the greatest, with 2^63 added -/
def kLo (t : Nat) : Nat := cT (ksigned t) (Nat.sub 9223372036854775808 (Nat.pow 2 (Nat.sub (kbits t) 1))) 9223372036854775808
def kHi (t : Nat) : Nat := cT (ksigned t) (Nat.add 9223372036854775807 (Nat.pow 2 (Nat.sub (kbits t) 1))) (Nat.add 9223372036854775807 (Nat.pow 2 (kbits t)))
/-- a residue u below 2^bits as the kind has it, with 2^63 added -/
def residue (t u : Nat) : Nat := cT (bA (ksigned t) (Nat.ble (Nat.pow 2 (Nat.sub (kbits t) 1)) u)) (Nat.sub (Nat.add u 9223372036854775808) (Nat.pow 2 (kbits t))) (Nat.add u 9223372036854775808)
/-- an integer n -/
def wrapI (t : Nat) (n : Int) : Nat := residue t (n % ((2 ^ kbits t : Nat) : Int)).toNat
def intV (t r : Nat) : AV := cV (Nat.ble 0 r) (vInt t r) vX
/-- s is the number + 2^64 -/
def fitV (t lo hi s : Nat) : AV := cV (bA (Nat.ble lo s) (Nat.ble s hi)) (vInt t (Nat.sub s 9223372036854775808)) (intV t (residue t (Nat.mod s (Nat.pow 2 (kbits t)))))
def i2 (t : Nat) (h : Nat → Nat → AV) (x y : AV) : AV := cV (bA (Nat.beq x.t t) (Nat.beq y.t t)) (h x.a y.a) vX
def hAdd (t lo hi x y : Nat) : AV := fitV t lo hi (Nat.add x y)
def hSub (t lo hi x y : Nat) : AV := cV (Nat.ble y (Nat.add x 18446744073709551616)) (fitV t lo hi (Nat.sub (Nat.add x 18446744073709551616) y)) vX
def hMul (t lo hi x y : Nat) : AV :=
  cV (bA (Nat.ble 9223372036854775808 x) (Nat.ble 9223372036854775808 y))
    (fitV t lo hi (Nat.add (Nat.mul (Nat.sub x 9223372036854775808) (Nat.sub y 9223372036854775808)) 18446744073709551616))
    (intV t (wrapI t (unbias x * unbias y)))
def hQuo (t x y : Nat) : AV := cV (Nat.beq y 9223372036854775808) vX (intV t (wrapI t (Int.tdiv (unbias x) (unbias y))))
def hRem (t x y : Nat) : AV := cV (Nat.beq y 9223372036854775808) vX
  (cV (bA (Nat.ble 9223372036854775808 x) (Nat.ble 9223372036854775808 y))
    (intV t (Nat.add (Nat.mod (Nat.sub x 9223372036854775808) (Nat.sub y 9223372036854775808)) 9223372036854775808))
    (intV t (biasI (Int.tmod (unbias x) (unbias y)))))
def bitsN (op : BinOp) (M a b : Nat) : Nat :=
  match op with
  | .and => Nat.land a b
  | .or => Nat.lor a b
  | .xor => Nat.xor a b
  | _ => Nat.land a (Nat.sub (Nat.sub M 1) b)
def hBits (op : BinOp) (t x y : Nat) : AV :=
  intV t (residue t (bitsN op (Nat.pow 2 (kbits t)) (Nat.mod (Nat.add x 9223372036854775808) (Nat.pow 2 (kbits t))) (Nat.mod (Nat.add y 9223372036854775808) (Nat.pow 2 (kbits t)))))
def hEq (x y : Nat) : AV := cV (Nat.beq x y) vT vF
def hNe (x y : Nat) : AV := cV (Nat.beq x y) vF vT
def hLt (x y : Nat) : AV := cV (Nat.ble y x) vF vT
def hLe (x y : Nat) : AV := cV (Nat.ble x y) vT vF
def hGt (x y : Nat) : AV := cV (Nat.ble x y) vF vT
def hGe (x y : Nat) : AV := cV (Nat.ble y x) vT vF
def hNone (_ _ : Nat) : AV := vX
/-- what an operator does with two numbers of one kind -/
def arithH (op : BinOp) (t : Nat) : Nat → Nat → AV :=
  match op with
  | .add => hAdd t (Nat.add (kLo t) 9223372036854775808) (Nat.add (kHi t) 9223372036854775808)
  | .sub => hSub t (Nat.add (kLo t) 9223372036854775808) (Nat.add (kHi t) 9223372036854775808)
  | .mul => hMul t (Nat.add (kLo t) 9223372036854775808) (Nat.add (kHi t) 9223372036854775808)
  | .quo => hQuo t
  | .rem => hRem t
  | .and | .or | .xor | .andNot => hBits op t
  | .eql => hEq
  | .neq => hNe
  | .lss => hLt
  | .leq => hLe
  | .gtr => hGt
  | .geq => hGe
  | _ => hNone
def isI (v : AV) : Bool := bA (Nat.ble 8 v.t) (Nat.ble v.t 15)
/-- an int that is no less than 0 -/
def isN (v : AV) : Bool := bA (isI v) (Nat.ble 9223372036854775808 v.a)
def nOf (v : AV) : Nat := Nat.sub v.a 9223372036854775808
def shN (op : BinOp) (t x n : Nat) : Nat :=
  match op with
  | .shl => wrapI t (unbias x * ((2 ^ min n (kbits t) : Nat) : Int))
  | _ => biasI (Int.fdiv (unbias x) ((2 ^ min n (kbits t) : Nat) : Int))
def hShift (op : BinOp) (t : Nat) (x y : AV) : AV :=
  cV (bA (Nat.beq x.t t) (isN y)) (intV t (shN op t x.a (nOf y))) vX

/-! ## Strings -/
def byteAt (d i : Nat) : Nat := Nat.land (Nat.shiftRight d (Nat.mul 8 i)) 255
def subStr (d l h : Nat) : Nat := Nat.mod (Nat.shiftRight d (Nat.mul 8 l)) (Nat.pow 2 (Nat.mul 8 (Nat.sub h l)))
def catStr (n d e : Nat) : Nat := Nat.add d (Nat.mul e (Nat.pow 2 (Nat.mul 8 n)))
def strLess : Nat → Nat → Nat → Nat → Nat → Bool
  | 0, _, _, _, _ => false
  | f + 1, n, d, m, e =>
    cT (Nat.beq m 0) false <| cT (Nat.beq n 0) true <|
    cT (Nat.beq (Nat.land d 255) (Nat.land e 255)) (strLess f (Nat.sub n 1) (Nat.shiftRight d 8) (Nat.sub m 1) (Nat.shiftRight e 8))
      (Nat.ble (Nat.succ (Nat.land d 255)) (Nat.land e 255))
def strV (n d : Nat) : AV := cV (bA (Nat.ble 0 n) (Nat.ble 0 d)) (vStr n d) vX
def s2 (h : Nat → Nat → Nat → Nat → AV) (x y : AV) : AV := cV (bA (Nat.beq x.t 2) (Nat.beq y.t 2)) (h x.a x.b y.a y.b) vX
def hCat (n a m b : Nat) : AV := cV (Nat.ble (Nat.add n m) 9223372036854775807) (strV (Nat.add n m) (catStr n a b)) vX
def hSEq (n a m b : Nat) : AV := cV (bA (Nat.beq n m) (Nat.beq a b)) vT vF
def hSNe (n a m b : Nat) : AV := cV (bA (Nat.beq n m) (Nat.beq a b)) vF vT
def hSLt (n a m b : Nat) : AV := cV (strLess (Nat.succ m) n a m b) vT vF
def hSGe (n a m b : Nat) : AV := cV (strLess (Nat.succ m) n a m b) vF vT
def hSGt (n a m b : Nat) : AV := cV (strLess (Nat.succ n) m b n a) vT vF
def hSLe (n a m b : Nat) : AV := cV (strLess (Nat.succ n) m b n a) vF vT
def hSNone (_ _ _ _ : Nat) : AV := vX
def stringH (op : BinOp) : Nat → Nat → Nat → Nat → AV :=
  match op with
  | .add => hCat
  | .eql => hSEq
  | .neq => hSNe
  | .lss => hSLt
  | .geq => hSGe
  | .gtr => hSGt
  | .leq => hSLe
  | _ => hSNone

/-! ## Equality of other things -/
def eqStr (x y : AV) : Bool := bA (Nat.beq x.a y.a) (Nat.beq x.b y.b)
/-- numbers, texts, bools of one kind: 1 equal, 0 not, 2 not to be told -/
def scalarEq (x y : AV) : Nat :=
  cT (Nat.ble x.t 1) (cT (Nat.ble y.t 1) (cT (Nat.beq x.t y.t) 1 0) 2) <|
  cT (Nat.beq x.t 2) (cT (Nat.beq y.t 2) (cT (eqStr x y) 1 0) 2) <|
  cT (bA (isI x) (Nat.beq x.t y.t)) (cT (Nat.beq x.a y.a) 1 0) 2
/-- cell by cell -/
def cellsEq : List AV → List AV → Nat
  | [], [] => 1
  | a :: as, b :: bs => cT (Nat.beq (scalarEq a b) 1) (cellsEq as bs) (scalarEq a b)
  | _, _ => 2
/-- the kinds of the cells of a type whose values are compared cell by cell -/
def plainCells (P : Program) : Nat → TypeId → Option (List TypeDesc)
  | 0, _ => none
  | f + 1, t =>
    match P.underlying t with
    | some .bool => some [.bool]
    | some (.int k) => some [.int k]
    | some .string => some [.string]
    | some (.struct fs) => cT (P.stoodInHeld t) none (fs.toList.foldr (fun x r => match plainCells P f x.type, r with
        | some a, some b => cT (x.name != "_") (some (a ++ b)) none
        | _, _ => none) (some []))
    | _ => none
def eqV (r : Nat) : AV := cV (Nat.beq r 1) vT (cV (Nat.beq r 0) vF vX)
def neV (r : Nat) : AV := cV (Nat.beq r 1) vF (cV (Nat.beq r 0) vT vX)
/-- two pointers to boxes -/
def eqPtr (H : Heap) (x y : AV) : Nat :=
  cT (bA (Nat.beq (hget H x.a).t 1) (Nat.beq (hget H y.a).t 1)) (cT (bA (Nat.beq x.a y.a) (Nat.beq x.b y.b)) 1 0) 2
def eqPP (x y : AV) (H : Heap) : Nat :=
  cT (Nat.beq x.t 4) (cT (Nat.beq y.t 4) 1 (cT (Nat.beq y.t 3) 0 2)) <|
  cT (Nat.beq x.t 3) (cT (Nat.beq y.t 4) 0 (cT (Nat.beq y.t 3) (eqPtr H x y) 2)) 2
/-- a thing that may be nil: n its tag when nil, p otherwise; only nil is compared -/
def eqNil (n p : Nat) (x y : AV) : Nat :=
  cT (Nat.beq x.t n) (cT (Nat.beq y.t n) 1 (cT (Nat.beq y.t p) 0 2)) (cT (Nat.beq x.t p) (cT (Nat.beq y.t n) 0 2) 2)
def eqIfc (cst : Bool) (x y : AV) : Nat :=
  cT (Nat.beq x.t 20) (cT (Nat.beq y.t 20) (cT cst 1 2) (cT (Nat.beq y.t 19) 0 2)) (cT (Nat.beq x.t 19) (cT (Nat.beq y.t 20) 0 2) 2)
def eqBool (x y : AV) : Nat := cT (bA (Nat.ble x.t 1) (Nat.ble y.t 1)) (cT (Nat.beq x.t y.t) 1 0) 2
def eqAgg (x y : AV) : Nat := cT (bA (Nat.beq x.t 21) (Nat.beq y.t 21)) (cellsEq x.l y.l) 2
def isC : Operand → Bool
  | .const _ => true
  | _ => false

/-! ## Cells of blocks -/
def cellsA (ab : AB) (n o : Nat) : List AV :=
  cL (bA (Nat.ble (Nat.succ (Nat.div o ab.s)) ab.n) (Nat.ble (Nat.add (Nat.mod o ab.s) n) ab.s)) (rangeL n (Nat.mod o ab.s) ab.s (htGet ab.l HD ab.e (Nat.div o ab.s))) []
/-- n cells of a block from o on -/
def cellsB (ab : AB) (n o : Nat) : List AV := cL (Nat.beq ab.t 1) (rangeL n o ab.n ab.l) (cL (Nat.beq ab.t 2) (cellsA ab n o) [])
def cell1A (ab : AB) (o : Nat) : AV := cV (Nat.ble (Nat.succ (Nat.div o ab.s)) ab.n) (nthV (Nat.mod o ab.s) (htGet ab.l HD ab.e (Nat.div o ab.s))) vX
def cell1B (ab : AB) (o : Nat) : AV := cV (Nat.beq ab.t 1) (nthV o ab.l) (cV (Nat.beq ab.t 2) (cell1A ab o) vX)
def loadN (n : Nat) (p : AV) (H : Heap) : AV := cV (Nat.beq p.t 3) (aggV n (cellsB (hget H p.a) n p.b)) vX
def load1 (p : AV) (H : Heap) : AV := cV (Nat.beq p.t 3) (cell1B (hget H p.a) p.b) vX
/-- a value's cells; there must be n, more than none -/
def cellsOk (v : AV) (n : Nat) : Bool := cT (Nat.beq v.t 21) (bA (Nat.beq v.a n) (bA (Nat.ble 1 n) (lenIs n v.l))) (bA (Nat.beq n 1) (bA (Nat.ble v.t 24) (cT (Nat.beq v.t 22) false true)))
def cellsL (v : AV) : List AV := cL (Nat.beq v.t 21) v.l [v]
def kRow (n : Nat) (H : Heap) (b : Nat) (k : KR) (r : List AV) : Ans := cA (lenIs n r) (k undefA (hset H b (bRow n r))) (.fail 60)
def kArr (ab : AB) (i : Nat) (H : Heap) (b : Nat) (k : KR) (r : List AV) : Ans := cA (lenIs ab.s r) (k undefA (hset H b (bArr ab.s ab.n ab.l (htSet ab.l HD ab.e i r)))) (.fail 61)
def stArr (ab : AB) (o n : Nat) (vs : List AV) (H : Heap) (b : Nat) (k : KR) : Ans :=
  cA (bA (Nat.ble (Nat.succ (Nat.div o ab.s)) ab.n) (Nat.ble (Nat.add (Nat.mod o ab.s) n) ab.s))
    (kArr ab (Nat.div o ab.s) H b k (cL (Nat.beq n ab.s) vs (spliceL (Nat.mod o ab.s) vs (htGet ab.l HD ab.e (Nat.div o ab.s))))) (.fail 62)
def stRow (ab : AB) (o n : Nat) (vs : List AV) (H : Heap) (b : Nat) (k : KR) : Ans :=
  cA (Nat.ble (Nat.add o n) ab.n) (kRow ab.n H b k (cL (Nat.beq n ab.n) vs (spliceL o vs ab.l))) (.fail 63)
/-- n cells vs into block ab = H[b] from o on -/
def stB (ab : AB) (o n : Nat) (vs : List AV) (H : Heap) (b : Nat) (k : KR) : Ans :=
  cA (Nat.beq ab.t 1) (stRow ab o n vs H b k) (cA (Nat.beq ab.t 2) (stArr ab o n vs H b k) (.fail 64))
def storeH (ro n : Nat) (p v : AV) (H : Heap) (k : KR) : Ans :=
  cA (bA (cellsOk v n) (bA (Nat.beq p.t 3) (Nat.ble ro p.a))) (stB (hget H p.a) p.b n (cellsL v) H p.a k) (.fail 65)

/-! ## Types -/
def szOf (P : Program) (t : TypeId) : Nat := match P.info? t with | some i => i.size | none => 0
def aggT (P : Program) (t : TypeId) : Bool :=
  match P.underlying t with
  | some (.struct _) | some (.array _ _) => true
  | _ => false
def zeroA (P : Program) (t : TypeId) : AV :=
  match P.info? t with
  | some i => match i.zero with | some v => ofV v | none => vX
  | none => vX
/-- the zero value's cells, if there are as many as the type says, more than none -/
def zeroCs (P : Program) (t : TypeId) : Option (Nat × List AV) :=
  cT (cellsOk (zeroA P t) (szOf P t)) (some (szOf P t, cellsL (zeroA P t))) none
def elemOfSlice (P : Program) (t : TypeId) : Option TypeId :=
  match P.underlying t with
  | some (.slice e) => some e
  | _ => none
def boxB (v : AV) : AB := cT (cellsOk v (cT (Nat.beq v.t 21) v.a 1)) (bRow (cT (Nat.beq v.t 21) v.a 1) (cellsL v)) bDead
/-- parts (offset, size, value) laid over cells; [] if they do not fit -/
structure Pt (d : Nat) where
  o : Nat
  s : Nat
  g : QT d → AV
def fillZ {d : Nat} (_ : QT d) (cs : List AV) : List AV := cs
def fillS {d : Nat} (p : Pt d) (ih : QT d → List AV → List AV) (τ : QT d) (cs : List AV) : List AV :=
  cL (cellsOk (p.g τ) p.s) (ih τ (spliceL p.o (cellsL (p.g τ)) cs)) []
def fillL {d : Nat} (ps : List (Pt d)) : QT d → List AV → List AV :=
  List.rec (motive := fun _ => QT d → List AV → List AV) fillZ (fun p _ ih => fillS p ih) ps
def buildP {d : Nat} (m : Nat) (zs : List AV) (ps : List (Pt d)) (τ : QT d) (_ : Heap) : AV := aggV m (fillL ps τ zs)
def fieldPlaces (P : Program) (fs : Array Field) : List (Nat × Nat) := fs.toList.map fun f => (f.offset, szOf P f.type)
structure Et (d : Nat) where
  i : Nat
  g : QT d → AV
def elS {d : Nat} (df : List AV) (p : Et d) (ih : QT d → HT (List AV) → HT (List AV)) (τ : QT d) (t : HT (List AV)) : HT (List AV) := ih τ (htSet df HD t p.i (cellsL (p.g τ)))
def elId {d : Nat} (_ : QT d) (t : HT (List AV)) : HT (List AV) := t
def elems {d : Nat} (df : List AV) (ps : List (Et d)) : QT d → HT (List AV) → HT (List AV) :=
  List.rec (motive := fun _ => QT d → HT (List AV) → HT (List AV)) elId (fun p _ ih => elS df p ih) ps
def elOkS {d : Nat} (s : Nat) (p : Et d) (ih : QT d → Bool) (τ : QT d) : Bool := bA (cellsOk (p.g τ) s) (ih τ)
def elOkZ {d : Nat} (_ : QT d) : Bool := true
def elOk {d : Nat} (s : Nat) (ps : List (Et d)) : QT d → Bool := List.rec (motive := fun _ => QT d → Bool) elOkZ (fun p _ ih => elOkS s p ih) ps
def bsliceB {d : Nat} (s len : Nat) (zs : List AV) (ps : List (Et d)) (τ : QT d) : AB := cT (elOk s ps τ) (bArr s len zs (elems zs ps τ .e)) bDead
def mkSl (len : Nat) (b : Nat) : AV := vSl b 0 len (Nat.succ len)
def mkUn (len : Nat) (b : Nat) : AV := vSl b 0 len 0
def msOk (by_ : Nat) (l c : AV) : Bool :=
  bA (bA (isN l) (isN c)) (bA (Nat.ble (nOf l) (nOf c)) (bA (Nat.ble (Nat.mul by_ (nOf c)) 281474976710656) (Nat.ble (nOf c) 1099511627775)))
def mkSlH {d : Nat} (s by_ : Nat) (zs : List AV) (l c : QT d → AV) (τ : QT d) (H : Heap) (k : KR) : Ans :=
  cA (msOk by_ (l τ) (c τ)) (hnewK H (bArr s (nOf (c τ)) zs .e) fun b H' => k (vSl b 0 (nOf (l τ)) (Nat.succ (nOf (c τ)))) H') (.fail 83)

/-! ## Addresses -/
def faH (o : Nat) (p : AV) : AV := cV (Nat.beq p.t 3) (vPtr p.a (Nat.add p.b o)) vX
def ixS (s : Nat) (x i : AV) : AV := cV (bA (Nat.beq x.t 5) (bA (isN i) (Nat.ble (Nat.succ (nOf i)) x.c))) (vPtr x.a (Nat.add x.b (Nat.mul (nOf i) s))) vX
def ixA (s n : Nat) (x i : AV) : AV := cV (bA (Nat.beq x.t 3) (bA (isN i) (Nat.ble (Nat.succ (nOf i)) n))) (vPtr x.a (Nat.add x.b (Nat.mul (nOf i) s))) vX
def partV (ag : Bool) (s o : Nat) (cs : List AV) : AV := cV ag (aggV s (takeL s (dropL o cs))) (nthV o cs)
def ixStr (x i : AV) : AV := cV (bA (Nat.beq x.t 2) (bA (isN i) (Nat.ble (Nat.succ (nOf i)) x.a))) (intV 12 (Nat.add (byteAt x.b (nOf i)) 9223372036854775808)) vX
def ixArr (ag : Bool) (s n : Nat) (x i : AV) : AV := cV (bA (Nat.beq x.t 21) (bA (isN i) (Nat.ble (Nat.succ (nOf i)) n))) (partV ag s (Nat.mul (nOf i) s) x.l) vX
def fldH (ag : Bool) (s o : Nat) (x : AV) : AV := cV (Nat.beq x.t 21) (partV ag s o x.l) vX

/-! ## Slices of slices, strings, arrays -/
/-- an optional bound -/
structure Bd (d : Nat) where
  has : Bool
  g : QT d → AV
def bdOk {d : Nat} (x : Bd d) (τ : QT d) : Bool := cT x.has (isN (x.g τ)) true
def bdN {d : Nat} (x : Bd d) (τ : QT d) (df : Nat) : Nat := cT x.has (nOf (x.g τ)) df
def slS2 (x : AV) (l h : Nat) : AV := cV (bA (Nat.ble l h) (Nat.ble h x.a)) (strV (Nat.sub h l) (subStr x.b l h)) vX
def slStr {d : Nat} (x : QT d → AV) (lo hi : Bd d) (τ : QT d) (_ : Heap) : AV :=
  cV (bA (Nat.beq (x τ).t 2) (bA (bdOk lo τ) (bdOk hi τ))) (slS2 (x τ) (bdN lo τ 0) (bdN hi τ (x τ).a)) vX
/-- the bounds l h of a slice of unknown capacity -/
def slU (s : Nat) (x : AV) (H : Heap) (l h : Nat) : AV :=
  cV (bA (Nat.ble l h) (bA (Nat.beq (hget H x.a).t 2) (bA (Nat.beq (hget H x.a).s s) (cT (Nat.ble h x.c) true (Nat.ble (Nat.add x.b (Nat.mul h s)) (Nat.mul (hget H x.a).n s))))))
    (vSl x.a (Nat.add x.b (Nat.mul l s)) (Nat.sub h l) 0) vX
/-- .. of a capacity that is cut at m, which is within it -/
def slM (s b o m l h : Nat) : AV :=
  cV (bA (Nat.ble l h) (Nat.ble h m)) (vSl b (cT (Nat.beq l m) o (Nat.add o (Nat.mul l s))) (Nat.sub h l) (Nat.succ (Nat.sub m l))) vX
def capM (x : AV) : Nat := Nat.rec (motive := fun _ => Nat) x.c (fun cap _ => cap) x.d
def slSl (s : Nat) (x : AV) (H : Heap) (hasM : Bool) (l h m : Nat) : AV :=
  cV hasM (cV (bA (Nat.ble m (capM x)) (Nat.ble 1 (Nat.add x.d x.c))) (slM s x.a x.b m l h) vX)
    (cV (Nat.beq x.d 0) (slU s x H l h) (slM s x.a x.b (Nat.sub x.d 1) l h))
def slH {d : Nat} (s : Nat) (x : QT d → AV) (lo hi mx : Bd d) (τ : QT d) (H : Heap) : AV :=
  cV (bA (bdOk lo τ) (bA (bdOk hi τ) (bdOk mx τ)))
    (cV (Nat.beq (x τ).t 5) (slSl s (x τ) H mx.has (bdN lo τ 0) (bdN hi τ (x τ).c) (bdN mx τ 0))
      (cV (bA (Nat.beq (x τ).t 6) (bA (Nat.beq (bdN lo τ 0) 0) (bA (Nat.beq (bdN hi τ 0) 0) (Nat.beq (bdN mx τ 0) 0)))) vNils vX)) vX
def slArr {d : Nat} (s m : Nat) (x : QT d → AV) (lo hi mx : Bd d) (τ : QT d) (_ : Heap) : AV :=
  cV (bA (Nat.beq (x τ).t 3) (bA (bdOk lo τ) (bA (bdOk hi τ) (bA (bdOk mx τ) (Nat.ble (bdN mx τ m) m)))))
    (slM s (x τ).a (x τ).b (bdN mx τ m) (bdN lo τ 0) (bdN hi τ m)) vX

/-! ## append, copy, clear -/
def noRow (_ : Nat) : List AV := []
def rowAt (ab : AB) (i j : Nat) : List AV := htGet ab.l HD ab.e (Nat.add i j)
def strRow (d j : Nat) : List AV := [vNat 12 (byteAt d j)]
/-- n elements of s cells from cell o on lie in ab -/
def rowsIn (ab : AB) (s o n : Nat) : Bool :=
  bA (Nat.beq ab.t 2) (bA (Nat.beq ab.s s) (bA (Nat.beq (Nat.mod o s) 0) (Nat.ble (Nat.add (Nat.div o s) n) ab.n)))
def rows2 (ab : AB) (s : Nat) (x : AV) (k : Nat → (Nat → List AV) → Ans) : Ans := cA (rowsIn ab s x.b x.c) (k x.c (rowAt ab (Nat.div x.b s))) (.fail 121)
/-- the elements of a slice or string, in rows of s cells: how many, and the i-th -/
def rowsOfK (H : Heap) (s : Nat) (x : AV) (k : Nat → (Nat → List AV) → Ans) : Ans :=
  cA (Nat.beq x.t 5) (cA (Nat.beq x.c 0) (k 0 noRow) (rows2 (hget H x.a) s x k)) <|
  cA (Nat.beq x.t 6) (k 0 noRow) <|
  tA x 2 (cA (Nat.beq s 1) (k x.a (strRow x.b)) (.fail 125))
def putS (df : List AV) (f : Nat → List AV) (ih : Nat → Nat → HT (List AV) → HT (List AV)) (i j : Nat) (t : HT (List AV)) : HT (List AV) := ih (Nat.succ i) (Nat.succ j) (htSet df HD t i (f j))
def putZ (_ _ : Nat) (t : HT (List AV)) : HT (List AV) := t
/-- m rows put into a tree from index i on: f j, f (j + 1), .. -/
def putRows (df : List AV) (f : Nat → List AV) (m : Nat) : Nat → Nat → HT (List AV) → HT (List AV) :=
  Nat.rec (motive := fun _ => Nat → Nat → HT (List AV) → HT (List AV)) putZ (fun _ ih => putS df f ih) m
def okRowsS (s : Nat) (f : Nat → List AV) (ih : Nat → Bool) (j : Nat) : Bool := bA (lenIs s (f j)) (ih (Nat.succ j))
def okRowsZ (_ : Nat) : Bool := true
/-- each of m rows has s cells -/
def okRows (s : Nat) (f : Nat → List AV) (m : Nat) : Nat → Bool := Nat.rec (motive := fun _ => Nat → Bool) okRowsZ (fun _ ih => okRowsS s f ih) m
/-- m rows into block ab = H[b] from index j on; then x -/
def inPlace (ab : AB) (H : Heap) (b m : Nat) (f : Nat → List AV) (x : AV) (k : KR) (j : Nat) : Ans :=
  cA (bA (Nat.ble (Nat.add j m) ab.n) (okRows ab.s f m 0)) (k x (hset H b (bArr ab.s ab.n ab.l (putRows ab.l f m j 0 ab.e)))) (.fail 127)
/-- slice x of unknown capacity, m more rows, perhaps in place: the block is not looked at again -/
def growU2 (ab : AB) (s : Nat) (df : List AV) (H : Heap) (x : AV) (m : Nat) (f : Nat → List AV) (k : KR) (i : Nat) : Ans :=
  cA (bA (Nat.ble (Nat.add x.c m) 1099511627775) (okRows s f m 0))
    (cA (Nat.beq i 0)
      (hnewK (hset H x.a bDead) (bArr s (Nat.add x.c m) ab.l (putRows ab.l f m x.c 0 ab.e)) fun b H' => k (vSl b 0 (Nat.add x.c m) 0) H')
      (cA (okRows s (rowAt ab i) x.c 0)
        (hnewK (hset H x.a bDead) (bArr s (Nat.add x.c m) df (putRows df f m x.c 0 (putRows df (rowAt ab i) x.c 0 0 .e))) fun b H' => k (vSl b 0 (Nat.add x.c m) 0) H') (.fail 131))) (.fail 128)
def growU (ab : AB) (s : Nat) (df : List AV) (H : Heap) (x : AV) (m : Nat) (f : Nat → List AV) (k : KR) : Ans :=
  cA (Nat.ble (Nat.add (Nat.add (Nat.div x.b s) x.c) m) ab.n) (inPlace ab H x.a m f (vSl x.a x.b (Nat.add x.c m) 0) k (Nat.add (Nat.div x.b s) x.c)) <|
  growU2 ab s df H x m f k (Nat.div x.b s)
def newFrom (s : Nat) (df : List AV) (H : Heap) (m : Nat) (f : Nat → List AV) (k : KR) (n : Nat) (g : Nat → List AV) : Ans :=
  cA (bA (Nat.ble (Nat.add n m) 1099511627775) (bA (okRows s f m 0) (okRows s g n 0)))
    (hnewK H (bArr s (Nat.add n m) df (putRows df f m n 0 (putRows df g n 0 0 .e))) fun b H' => k (vSl b 0 (Nat.add n m) 0) H') (.fail 129)
def app3 (ro s by_ : Nat) (df : List AV) (H : Heap) (x : AV) (m : Nat) (f : Nat → List AV) (k : KR) : Ans :=
  cA (bA (Nat.ble ro x.a) (bA (rowsIn (hget H x.a) s x.b x.c) (Nat.ble (Nat.mul by_ (Nat.add x.c m)) 70368744177664)))
    (cA (Nat.beq x.d 0) (growU (hget H x.a) s df H x m f k)
      (cA (Nat.ble (Nat.add x.c m) (Nat.sub x.d 1)) (inPlace (hget H x.a) H x.a m f (vSl x.a x.b (Nat.add x.c m) x.d) k (Nat.add (Nat.div x.b s) x.c))
        (newFrom s df H m f k x.c (rowAt (hget H x.a) (Nat.div x.b s))))) (.fail 126)
def app2 (ro s by_ : Nat) (df : List AV) (H : Heap) (x : AV) (k : KR) (m : Nat) (f : Nat → List AV) : Ans :=
  cA (Nat.beq m 0) (cA (Nat.beq x.t 5) (k x H) (tA x 6 (k x H))) <|
  cA (Nat.beq x.t 5) (app3 ro s by_ df H x m f k) (tA x 6 (cA (Nat.ble (Nat.mul by_ m) 70368744177664) (newFrom s df H m f k 0 noRow) (.fail 130)))
def appendH (ro s by_ : Nat) (df : List AV) (x y : AV) (H : Heap) (k : KR) : Ans := rowsOfK H s y (app2 ro s by_ df H x k)
def minN (m n : Nat) : Nat := cT (Nat.ble m n) m n
def cpy2 (ro s : Nat) (H : Heap) (x : AV) (k : KR) (m : Nat) (f : Nat → List AV) : Ans :=
  cA (bA (Nat.ble ro x.a) (rowsIn (hget H x.a) s x.b (minN m x.c))) (inPlace (hget H x.a) H x.a (minN m x.c) f (vNat 11 (minN m x.c)) k (Nat.div x.b s)) (.fail 132)
def cpy1 (ro s : Nat) (H : Heap) (x : AV) (k : KR) (m : Nat) (f : Nat → List AV) : Ans :=
  cA (Nat.beq x.t 5) (cA (Nat.beq (minN m x.c) 0) (k (vNat 11 0) H) (cpy2 ro s H x k m f)) (tA x 6 (k (vNat 11 0) H))
def copyH (ro s : Nat) (x y : AV) (H : Heap) (k : KR) : Ans := rowsOfK H s y (cpy1 ro s H x k)
def dfRow (df : List AV) (_ : Nat) : List AV := df
def clearH (ro s : Nat) (df : List AV) (x : AV) (H : Heap) (k : KR) : Ans :=
  cA (Nat.beq x.t 6) (k undefA H) (tA x 5 (cA (Nat.beq x.c 0) (k undefA H)
    (cA (bA (Nat.ble ro x.a) (rowsIn (hget H x.a) s x.b x.c)) (inPlace (hget H x.a) H x.a x.c (dfRow df) undefA k (Nat.div x.b s)) (.fail 133))))

/-! ## Maps -/
/-- 2: a key that is not to be compared; otherwise its place + 3, or 1: it is not there -/
def findE (key : AV) (es : List Ent) : Nat → Nat :=
  List.rec (motive := fun _ => Nat → Nat) (fun _ => 1) (fun e _ ih i => cT (Nat.beq (scalarEq key e.k) 1) (Nat.add i 3) (cT (Nat.beq (scalarEq key e.k) 0) (ih (Nat.succ i)) 2)) es
/-- the entry at place i -/
def nthE (es : List Ent) (z : AV) : Nat → AV := List.rec (motive := fun _ => Nat → AV) (fun _ => z) (fun e _ ih i => Nat.rec (motive := fun _ => AV) e.v (fun j _ => ih j) i) es
def setE (key v : AV) (es : List Ent) : Nat → List Ent :=
  List.rec (motive := fun _ => Nat → List Ent) (fun _ => []) (fun e r ih i => Nat.rec (motive := fun _ => List Ent) (⟨key, v, e.n⟩ :: r) (fun j _ => e :: ih j) i) es
def delE (es : List Ent) : Nat → List Ent :=
  List.rec (motive := fun _ => Nat → List Ent) (fun _ => []) (fun e r ih i => Nat.rec (motive := fun _ => List Ent) r (fun j _ => e :: ih j) i) es
def addE (key v : AV) (clk : Nat) (es : List Ent) : List Ent := List.rec (motive := fun _ => List Ent) [⟨key, v, clk⟩] (fun e _ ih => e :: ih) es
def plainKey (P : Program) (t : TypeId) : Option (TypeId × TypeId) :=
  match P.underlying t with
  | some (.map k e) => (match P.underlying k with
    | some .bool | some (.int _) | some .string => some (k, e)
    | _ => none)
  | _ => none
/-- a map's entries; a nil map has none -/
def entsOf (x : AX) : List Ent := match x with | .map es _ => es | _ => []
def clkOf (x : AX) : Nat := match x with | .map _ c => c | _ => 0
def isMap (x : AX) : Bool := match x with | .map _ _ => true | _ => false
def mapB (m : AV) (H : Heap) : Bool := bA (Nat.beq m.t 7) (isMap (axOf (hget H m.a)))
def foundV (z : AV) (ok : Bool) (es : List Ent) (r : Nat) : AV :=
  cV (Nat.beq r 2) vX (cV (Nat.beq r 1) (cV ok (vTup [z, vF]) z) (cV ok (vTup [nthE es z (Nat.sub r 3), vT]) (nthE es z (Nat.sub r 3))))
/-- a key of the kind that is asked for: t its tag, 0 a bool -/
def keyOk (t : Nat) (key : AV) : Bool := cT (Nat.beq t 0) (Nat.ble key.t 1) (Nat.beq key.t t)
def keyTag (P : Program) (k : TypeId) : Nat :=
  match P.underlying k with
  | some (.int i) => kc i
  | some .string => 2
  | some .bool => 0
  | _ => 98
def lookH (z : AV) (ok : Bool) (kt : Nat) (m key : AV) (H : Heap) : AV :=
  cV (keyOk kt key) (cV (Nat.beq m.t 24) (foundV z ok [] 1)
    (cV (mapB m H) (foundV z ok (entsOf (axOf (hget H m.a))) (findE key (entsOf (axOf (hget H m.a))) 0)) vX)) vX
def mupd2 (m key v : AV) (H : Heap) (k : KR) (es : List Ent) (clk r : Nat) : Ans :=
  cA (Nat.beq r 2) (.fail 141) (cA (Nat.beq r 1) (k undefA (hset H m.a (bX (.map (addE key v clk es) (Nat.succ clk)))))
    (k undefA (hset H m.a (bX (.map (setE key v es (Nat.sub r 3)) clk)))))
def mupd (ro kt : Nat) (m key v : AV) (H : Heap) (k : KR) : Ans :=
  cA (bA (keyOk kt key) (bA (Nat.ble v.t 24) (bA (Nat.ble ro m.a) (mapB m H)))) (mupd2 m key v H k (entsOf (axOf (hget H m.a))) (clkOf (axOf (hget H m.a))) (findE key (entsOf (axOf (hget H m.a))) 0)) (.fail 146)
def mdel2 (m : AV) (H : Heap) (k : KR) (es : List Ent) (clk r : Nat) : Ans :=
  cA (Nat.beq r 2) (.fail 142) (cA (Nat.beq r 1) (k undefA H) (k undefA (hset H m.a (bX (.map (delE es (Nat.sub r 3)) clk)))))
def mdel (ro kt : Nat) (m key : AV) (H : Heap) (k : KR) : Ans :=
  cA (keyOk kt key) (cA (Nat.beq m.t 24) (k undefA H) (cA (bA (Nat.ble ro m.a) (mapB m H)) (mdel2 m H k (entsOf (axOf (hget H m.a))) (clkOf (axOf (hget H m.a))) (findE key (entsOf (axOf (hget H m.a))) 0)) (.fail 147))) (.fail 148)
def lenE (es : List Ent) : Nat := List.rec (motive := fun _ => Nat) 0 (fun _ _ n => Nat.succ n) es

/-! ## Range -/
def rangeS (x : AV) (H : Heap) (k : KR) : Ans := tA x 2 (hnewK H (bX (.sit x.a x.b 0)) fun b H' => k (vPtr b 0) H')
def rangeM (x : AV) (H : Heap) (k : KR) : Ans :=
  cA (Nat.beq x.t 24) (hnewK H (bX (.mit none 0 [] 0)) fun b H' => k (vPtr b 0) H') <|
  cA (mapB x H) (hnewK H (bX (.mit (some x.a) (clkOf (axOf (hget H x.a))) [] (clkOf (axOf (hget H x.a))))) fun b H' => k (vPtr b 0) H') (.fail 149)
/-- a step of a string's iterator: an ASCII byte at once -/
def nextS2 (x : AV) (H : Heap) (k : KR) (n d pos c w : Nat) : Ans :=
  cA (Nat.ble 0 (Nat.add pos w)) (k (vTup [vT, vNat 11 pos, intV 10 (Nat.add c 9223372036854775808)]) (hset H x.a (bX (.sit n d (Nat.add pos w))))) (.fail 150)
def nextS (x : AV) (H : Heap) (k : KR) (n d pos : Nat) : Ans :=
  cA (Nat.ble (Nat.succ pos) n) (cA (Nat.ble (byteAt d pos) 127) (nextS2 x H k n d pos (byteAt d pos) 1) (.fail 149)) (k (vTup [vF]) H)
def hasN (s : List Nat) (n : Nat) : Bool := List.rec (motive := fun _ => Bool) false (fun m _ ih => cT (Nat.beq m n) true ih) s
/-- the entries that have not been seen -/
def leftE (seen : List Nat) (es : List Ent) : List Ent := List.rec (motive := fun _ => List Ent) [] (fun e _ ih => cT (hasN seen e.n) ih (e :: ih)) es
def oldE (since : Nat) (es : List Ent) : Bool := List.rec (motive := fun _ => Bool) true (fun e _ ih => bA (Nat.ble (Nat.succ e.n) since) ih) es
/-- .. each of them next, whatever the order -/
def eachE (f : Ent → Ans) (es : List Ent) : Ans := List.rec (motive := fun _ => Ans) .done (fun e _ ih => andA (f e) ih) es
def nextE (x : AV) (H : Heap) (k : KR) (m since clk : Nat) (seen : List Nat) (e : Ent) : Ans :=
  k (vTup [vT, e.k, e.v]) (hset H x.a (bX (.mit (some m) since (e.n :: seen) clk)))
def nextM2 (x : AV) (H : Heap) (k : KR) (m since clk : Nat) (seen : List Nat) (left : List Ent) : Ans :=
  List.rec (motive := fun _ => Ans) (k (vTup [vF]) H) (fun e r _ => cA (oldE since (e :: r)) (eachE (nextE x H k m since clk seen) (e :: r)) (.fail 151)) left
/-- not: all that was there at the last step is gone -/
def goneE (seen : List Nat) (es : List Ent) (last : Nat) : Bool :=
  List.rec (motive := fun _ => Bool) false (fun _ _ _ => List.rec (motive := fun _ => Bool) false (fun e r _ => List.rec (motive := fun _ => Bool) true (fun e _ ih => bA (Nat.ble last e.n) ih) (e :: r)) es) seen
def nextM (x : AV) (H : Heap) (k : KR) (m since : Nat) (seen : List Nat) (last : Nat) : Ans :=
  cA (isMap (axOf (hget H m))) (cA (goneE seen (entsOf (axOf (hget H m))) last) (.fail 152) (nextM2 x H k m since (clkOf (axOf (hget H m))) seen (leftE seen (entsOf (axOf (hget H m)))))) (.fail 153)
def nextH (isS : Bool) (x : AV) (H : Heap) (k : KR) : Ans :=
  cA (bA (Nat.beq x.t 3) (Nat.beq x.b 0)) (match axOf (hget H x.a) with
    | .sit n d pos => cA isS (nextS x H k n d pos) (.fail 154)
    | .mit none _ _ _ => cA isS (.fail 155) (k (vTup [vF]) H)
    | .mit (some m) since seen last => cA isS (.fail 156) (nextM x H k m since seen last)
    | _ => .fail 157) (.fail 158)

def entry2 (es : List Ent) (st : Nat) : AV := List.rec (motive := fun _ => AV) vX (fun e _ ih => cV (Nat.beq e.n st) (vTup [e.k, e.v]) ih) es
def entryX (H : Heap) (ax : AX) : AV :=
  match ax with
  | .mit (some m) _ (st :: _) stepped => cV (bA (isMap (axOf (hget H m))) (Nat.beq (clkOf (axOf (hget H m))) stepped)) (entry2 (entsOf (axOf (hget H m))) st) vX
  | _ => vX
def entryH (x : AV) (H : Heap) : AV := cV (bA (Nat.beq x.t 3) (Nat.beq x.b 0)) (entryX H (axOf (hget H x.a))) vX

/-! ## Conversions and the rest -/
def byteOk (c : AV) : Bool := bA (Nat.beq c.t 12) (bA (Nat.ble 9223372036854775808 c.a) (Nat.ble c.a 9223372036854776063))
def bAcc (v : AV) (j acc : Nat) : Nat := Nat.add acc (Nat.mul (nOf v) (Nat.pow 2 (Nat.mul 8 j)))
def bytesS (f : Nat → List AV) (ih : Nat → Nat → Nat) (j acc : Nat) : Nat := ih (Nat.succ j) (bAcc (nthV 0 (f j)) j acc)
def bytesZ (_ acc : Nat) : Nat := acc
def bytesN (f : Nat → List AV) (n : Nat) : Nat → Nat → Nat := Nat.rec (motive := fun _ => Nat → Nat → Nat) bytesZ (fun _ ih => bytesS f ih) n
def okBytesS (f : Nat → List AV) (ih : Nat → Bool) (j : Nat) : Bool := bA (lenIs 1 (f j)) (bA (byteOk (nthV 0 (f j))) (ih (Nat.succ j)))
def okBytes (f : Nat → List AV) (n : Nat) : Nat → Bool := Nat.rec (motive := fun _ => Nat → Bool) okRowsZ (fun _ ih => okBytesS f ih) n
def cvI (t lo hi : Nat) (x : AV) : AV := cV (isI x) (fitV t lo hi (Nat.add x.a 9223372036854775808)) vX
def cvIS (x : AV) : AV := cV (isI x) (cV (bA (Nat.ble 9223372036854775808 x.a) (Nat.ble x.a 9223372036854775935)) (vStr 1 (Nat.sub x.a 9223372036854775808)) vX) vX
def cvSS (x : AV) : AV := cV (Nat.beq x.t 2) x vX
def cvSB (x : AV) (H : Heap) (k : KR) : Ans :=
  tA x 2 (cA (Nat.ble x.a 1099511627775) (hnewK H (bArr 1 x.a [vNat 12 0] (putRows [vNat 12 0] (strRow x.b) x.a 0 0 .e)) fun b H' => k (mkUn x.a b) H') (.fail 160))
def cvBS (x : AV) (H : Heap) : AV :=
  cV (Nat.beq x.t 6) (vStr 0 0) (cV (bA (Nat.beq x.t 5) (bA (rowsIn (hget H x.a) 1 x.b x.c) (okBytes (rowAt (hget H x.a) x.b) x.c 0))) (strV x.c (bytesN (rowAt (hget H x.a) x.b) x.c 0 0)) vX)
def okV (ok : Bool) (v : AV) : AV := cV ok (vTup [v, vT]) v
def asH (z : AV) (t : Nat) (ok : Bool) (x : AV) : AV :=
  cV (Nat.beq x.t 19) (cV (Nat.beq x.a t) (okV ok (nthV 0 x.l)) (cV ok (vTup [z, vF]) vX)) (cV (bA (Nat.beq x.t 20) ok) (vTup [z, vF]) vX)
def notH (x : AV) : AV := cV (Nat.beq x.t 1) vF (cV (Nat.beq x.t 0) vT vX)
def negH (t lo hi : Nat) (x : AV) : AV := cV (Nat.beq x.t t) (hSub t lo hi 9223372036854775808 x.a) vX
def cplH (t : Nat) (x : AV) : AV := cV (Nat.beq x.t t) (intV t (residue t (Nat.sub (Nat.sub (Nat.pow 2 (kbits t)) 1) (Nat.mod (Nat.add x.a 9223372036854775808) (Nat.pow 2 (kbits t)))))) vX
def lenStr (x : AV) : AV := cV (Nat.beq x.t 2) (vNat 11 x.a) vX
def lenSl (x : AV) : AV := cV (Nat.beq x.t 5) (vNat 11 x.c) (cV (Nat.beq x.t 6) (vNat 11 0) vX)
def lenMap (x : AV) (H : Heap) : AV := cV (Nat.beq x.t 24) (vNat 11 0) (cV (mapB x H) (vNat 11 (lenE (entsOf (axOf (hget H x.a))))) vX)
def capSl (x : AV) : AV := cV (Nat.beq x.t 5) (cV (Nat.beq x.d 0) vX (vNat 11 (Nat.sub x.d 1))) (cV (Nat.beq x.t 6) (vNat 11 0) vX)
def mm2 (isMax : Bool) (x y : AV) : AV := cV (bA (isI x) (Nat.beq y.t x.t)) (cV (cT isMax (Nat.ble y.a x.a) (Nat.ble x.a y.a)) x y) vX
def mmL {d : Nat} (isMax : Bool) (gs : List (QT d → AV)) (x : AV) (τ : QT d) : AV := gs.foldl (fun m g => mm2 isMax m (g τ)) x
def mmP {d : Nat} (isMax : Bool) (g : QT d → AV) (gs : List (QT d → AV)) (τ : QT d) (_ : Heap) : AV := cV (isI (g τ)) (mmL isMax gs (g τ) τ) vX
def extH (i : Nat) (x : AV) : AV := cV (Nat.beq x.t 22) (nthV i x.l) vX
def nilH (x : AV) : AV := cV (Nat.beq x.t 3) x (cV (Nat.beq x.t 16) x vX)
def movH (x : AV) : AV := x
def pickP {d : Nat} (c a b : QT d → AV) (τ : QT d) (_ : Heap) : AV := cV (Nat.beq (c τ).t 1) (a τ) (cV (Nat.beq (c τ).t 0) (b τ) vX)
def evZ {d : Nat} (_ : QT d) : List AV := []
def evS {d : Nat} (g : QT d → AV) (ih : QT d → List AV) (τ : QT d) : List AV := g τ :: ih τ
def evals {d : Nat} (gs : List (QT d → AV)) : QT d → List AV := List.rec (motive := fun _ => QT d → List AV) evZ (fun g _ ih => evS g ih) gs
def fnV (f : Nat) (l m : List AV) : AV := cV (bA (okL l) (okL m)) (vFn f l m) vX
def mkFn {d : Nat} (f : Nat) (l m : QT d → List AV) (τ : QT d) (_ : Heap) : AV := fnV f (l τ) (m τ)
def ifcH (t : Nat) (x : AV) : AV := cV (Nat.ble x.t 24) (vIfc t x) vX
def cnstH {d : Nat} (v : AV) (_ : QT d) (_ : Heap) : AV := v
end Go.Ev
end

/-! The evaluator, part 3: the operations of a region, compiled. -/
noncomputable section
set_option linter.unusedVariables false
namespace Go.Ev

/-- what the compiler knows: the program; the blocks below `ro` are not written; the temporaries: how many, how deep their tree;
those that hold a box of their own (`pb`: its cells lie in the slot), those that hold an address in such a box (`ad`) -/
structure Cx where
  P : Program
  ro : Nat
  nt : Nat
  d : Nat
  pb : Nat
  ad : Nat
/-- temporary t is the address of cell `off` of the box of temporary `box` -/
structure Ad where
  t : Nat
  box : Nat
  off : Nat
def isPlain (X : Cx) (t : Nat) : Bool := bA (Nat.ble (Nat.succ t) X.nt) (bA (!Nat.testBit X.pb t) (!Nat.testBit X.ad t))
def noG {d : Nat} (_ : QT d) : AV := vX
def cnstG {d : Nat} (v : AV) (_ : QT d) : AV := v
def cTmp (X : Cx) (t : Nat) : QT X.d → AV := cT (isPlain X t) (gt X.d t).f noG
def cOpd (X : Cx) : Operand → QT X.d → AV
  | .tmp t => cTmp X t
  | .const v => cnstG (ofV v)
  | .global g => cnstG (cV (Nat.ble (Nat.succ g) X.ro) (vPtr g 0) vX)
  | .func f => cnstG (vFn f [] [])
def findAd (t : Nat) : List Ad → Option Ad
  | [] => none
  | a :: e => cT (Nat.beq a.t t) (some a) (findAd t e)
/-- an operand that is an address in a box of its own: the slot to be looked at (it holds a struct, or 1 if the address was made), the box, the cell -/
structure PA where
  chk : Nat
  tag : Nat
  box : Nat
  off : Nat
def cAdr (X : Cx) (env : List Ad) : Operand → Option PA
  | .tmp t =>
    cT (bA (Nat.testBit X.pb t) (Nat.ble (Nat.succ t) X.nt)) (some ⟨t, 21, t, 0⟩)
      (cT (bA (Nat.testBit X.ad t) (Nat.ble (Nat.succ t) X.nt)) (match findAd t env with
        | some a => some ⟨t, 1, a.box, a.off⟩
        | none => none) none)
  | _ => none

/-- an operation, compiled: fails · a value (kind 0: out of the temporaries; 1: the heap is looked at; 2 + b: box b is looked at) ·
a new block · something done to the heap · a box of its own made · stored into · an address in one · no more than a check -/
inductive CO (d : Nat) where
  | bad (w : Nat)
  | val (kind : Nat) (f : QT d → Heap → AV)
  | new (f : QT d → AB) (mk : Nat → AV)
  | eff (f : QT d → Heap → KR → Ans)
  | pnew (f : QT d → AV)
  | pst (box : Nat) (f : QT d → AV)
  | adr (a : Ad) (f : QT d → AV)

def u0 {d : Nat} (v : AV) (_ : QT d) (_ : Heap) : AV := v
def u1 {d : Nat} (h : AV → AV) (g : QT d → AV) (τ : QT d) (_ : Heap) : AV := h (g τ)
def u2 {d : Nat} (h : AV → AV → AV) (g g' : QT d → AV) (τ : QT d) (_ : Heap) : AV := h (g τ) (g' τ)
def r1 {d : Nat} (h : AV → Heap → AV) (g : QT d → AV) (τ : QT d) (H : Heap) : AV := h (g τ) H
def r2 {d : Nat} (h : AV → AV → Heap → AV) (g g' : QT d → AV) (τ : QT d) (H : Heap) : AV := h (g τ) (g' τ) H
def e1 {d : Nat} (h : AV → Heap → KR → Ans) (g : QT d → AV) (τ : QT d) (H : Heap) (k : KR) : Ans := h (g τ) H k
def e2 {d : Nat} (h : AV → AV → Heap → KR → Ans) (g g' : QT d → AV) (τ : QT d) (H : Heap) (k : KR) : Ans := h (g τ) (g' τ) H k
def e3 {d : Nat} (h : AV → AV → AV → Heap → KR → Ans) (g g' g'' : QT d → AV) (τ : QT d) (H : Heap) (k : KR) : Ans := h (g τ) (g' τ) (g'' τ) H k
def b1 {d : Nat} (h : AV → AB) (g : QT d → AV) (τ : QT d) : AB := h (g τ)
def b0 {d : Nat} (b : AB) (_ : QT d) : AB := b
def mkP (b : Nat) : AV := vPtr b 0

/-- the type has a description -/
def tyOk (P : Program) (t : TypeId) : Bool := match P.underlying t with | some _ => true | none => false
def infoOk (P : Program) (t : TypeId) : Bool := match P.info? t with | some _ => true | none => false
def eqC {d : Nat} (h : AV → AV → Nat) (neg : Bool) (x y : QT d → AV) : CO d := .val 0 (cT neg (u2 (fun a b => neV (h a b)) x y) (u2 (fun a b => eqV (h a b)) x y))
def eqR {d : Nat} (h : AV → AV → Heap → Nat) (neg : Bool) (x y : QT d → AV) : CO d := .val 1 (cT neg (r2 (fun a b H => neV (h a b H)) x y) (r2 (fun a b H => eqV (h a b H)) x y))
def eqCO (X : Cx) (neg : Bool) (t : TypeId) (x y : Operand) : CO X.d :=
  match X.P.underlying t with
  | some .bool => eqC eqBool neg (cOpd X x) (cOpd X y)
  | some (.pointer e) => cT (Nat.beq (szOf X.P e) 0) (.bad 40) (eqR eqPP neg (cOpd X x) (cOpd X y))
  | some (.slice _) => eqC (eqNil 6 5) neg (cOpd X x) (cOpd X y)
  | some (.map _ _) => eqC (eqNil 24 7) neg (cOpd X x) (cOpd X y)
  | some (.func _ _ _) => eqC (eqNil 18 16) neg (cOpd X x) (cOpd X y)
  | some (.interface _) => eqC (eqIfc (isC x || isC y)) neg (cOpd X x) (cOpd X y)
  | _ => .bad 42
def binCO (X : Cx) (op : BinOp) (t : TypeId) (x y : Operand) : CO X.d :=
  match X.P.underlying t with
  | some (.int k) => (match op with
    | .shl | .shr => .val 0 (u2 (hShift op (kc k)) (cOpd X x) (cOpd X y))
    | op => .val 0 (u2 (i2 (kc k) (arithH op (kc k))) (cOpd X x) (cOpd X y)))
  | some .string => .val 0 (u2 (s2 (stringH op)) (cOpd X x) (cOpd X y))
  | _ => (match op with
    | .eql => eqCO X false t x y
    | .neq => eqCO X true t x y
    | _ => .bad 43)
/-- part i lies at place i of pl: its cell, its size; n cells in all -/
def partsS (X : Cx) (n : Nat) (pl : List (Nat × Nat)) : List (Nat × Operand) → Option (List (Pt X.d))
  | [] => some []
  | (i, x) :: ps =>
    match pl[i]?, partsS X n pl ps with
    | some (o, s), some r => cT (Nat.ble (Nat.add o s) n) (some (⟨o, s, cOpd X x⟩ :: r)) none
    | _, _ => none
/-- part i lies at i * s -/
def partsA (X : Cx) (s n : Nat) : List (Nat × Operand) → Option (List (Pt X.d))
  | [] => some []
  | (i, x) :: ps => cT (Nat.ble (Nat.add (Nat.mul i s) s) n) (match partsA X s n ps with
    | some r => some (⟨Nat.mul i s, s, cOpd X x⟩ :: r)
    | none => none) none
def buildCO (X : Cx) (t : TypeId) (parts : List (Nat × Operand)) : CO X.d :=
  cT (bA (Nat.beq (zeroA X.P t).a 0) (!parts.isEmpty)) (.bad 70) <|
  cT (Nat.beq (zeroA X.P t).t 21)
    (match X.P.underlying t with
     | some (.struct fs) => cT (fs.toList.all fun f => infoOk X.P f.type) (match partsS X (zeroA X.P t).a (fieldPlaces X.P fs) parts with
       | some ps => .val 0 (buildP (zeroA X.P t).a (zeroA X.P t).l ps)
       | none => .bad 72) (.bad 71)
     | some (.array _ e) => cT (infoOk X.P e) (match partsA X (szOf X.P e) (zeroA X.P t).a parts with
       | some ps => .val 0 (buildP (zeroA X.P t).a (zeroA X.P t).l ps)
       | none => .bad 74) (.bad 71)
     | _ => .bad 75) (.bad 73)
def bsliceCO (X : Cx) (t : TypeId) (len : Nat) (parts : List (Nat × Operand)) : CO X.d :=
  match elemOfSlice X.P t with
  | none => .bad 76
  | some e =>
    match zeroCs X.P e with
    | none => .bad 77
    | some (s, zs) => cT (bA (parts.all (fun p => Nat.ble (Nat.succ p.1) len)) (Nat.ble (Nat.mul len s) 16777216))
        (.new (bsliceB s len zs (parts.map fun p => ⟨p.1, cOpd X p.2⟩)) (mkSl len)) (.bad 78)
def mkSliceCO (X : Cx) (t : TypeId) (l c : Operand) : CO X.d :=
  match elemOfSlice X.P t with
  | none => .bad 84
  | some e =>
    match zeroCs X.P e with
    | none => .bad 85
    | some (s, zs) => .eff (mkSlH s (X.P.bytesOf e) zs (cOpd X l) (cOpd X c))
/-- a field of a struct type -/
def fieldAt' (P : Program) (s : TypeId) (i : Nat) : Option Field :=
  match P.underlying s with
  | some (.struct fs) => fs.toList[i]?
  | _ => none
def faCO (X : Cx) (s : TypeId) (x : Operand) (i : Nat) : CO X.d :=
  match fieldAt' X.P s i with
  | some f => cT (Nat.beq (szOf X.P f.type) 0) (.bad 100) (.val 0 (u1 (faH f.offset) (cOpd X x)))
  | none => .bad 101
def ixaCO (X : Cx) (t : TypeId) (x i : Operand) : CO X.d :=
  match X.P.underlying t with
  | some (.slice e) => cT (infoOk X.P e) (.val 0 (u2 (ixS (szOf X.P e)) (cOpd X x) (cOpd X i))) (.bad 106)
  | some (.array m e) => cT (infoOk X.P e) (.val 0 (u2 (ixA (szOf X.P e) m) (cOpd X x) (cOpd X i))) (.bad 106)
  | _ => .bad 105
def ixCO (X : Cx) (t : TypeId) (x i : Operand) : CO X.d :=
  match X.P.underlying t with
  | some .string => .val 0 (u2 ixStr (cOpd X x) (cOpd X i))
  | some (.array m e) => cT (tyOk X.P e) (.val 0 (u2 (ixArr (aggT X.P e) (szOf X.P e) m) (cOpd X x) (cOpd X i))) (.bad 107)
  | _ => .bad 108
def fldCO (X : Cx) (s : TypeId) (x : Operand) (i : Nat) : CO X.d :=
  match fieldAt' X.P s i with
  | some f => cT (tyOk X.P f.type) (.val 0 (u1 (fldH (aggT X.P f.type) (szOf X.P f.type) f.offset) (cOpd X x))) (.bad 110)
  | none => .bad 109
def cBd (X : Cx) : Option Operand → Bd X.d
  | none => ⟨false, noG⟩
  | some x => ⟨true, cOpd X x⟩
def slCO (X : Cx) (t : TypeId) (x : Operand) (lo hi mx : Option Operand) : CO X.d :=
  cT (bA mx.isSome (!hi.isSome)) (.bad 117) <|
  match X.P.underlying t with
  | some .string => (match mx with
    | none => .val 0 (slStr (cOpd X x) (cBd X lo) (cBd X hi))
    | some _ => .bad 119)
  | some (.slice e) => cT (Nat.beq (szOf X.P e) 0) (.bad 118) (.val 1 (slH (szOf X.P e) (cOpd X x) (cBd X lo) (cBd X hi) (cBd X mx)))
  | some (.array m e) => cT (infoOk X.P e) (.val 0 (slArr (szOf X.P e) m (cOpd X x) (cBd X lo) (cBd X hi) (cBd X mx))) (.bad 118)
  | _ => .bad 120
def lookCO (X : Cx) (t : TypeId) (x i : Operand) (ok : Bool) : CO X.d :=
  match plainKey X.P t with
  | some (k, e) => cT (Nat.ble (zeroA X.P e).t 24) (.val 1 (r2 (lookH (zeroA X.P e) ok (keyTag X.P k)) (cOpd X x) (cOpd X i))) (.bad 144)
  | none => .bad 145
def mupdCO (X : Cx) (t : TypeId) (m k v : Operand) : CO X.d :=
  match plainKey X.P t with
  | some (kt, _) => .eff (e3 (mupd X.ro (keyTag X.P kt)) (cOpd X m) (cOpd X k) (cOpd X v))
  | none => .bad 191
def convCO (X : Cx) (src dst : TypeId) (x : Operand) : CO X.d :=
  match X.P.underlying src, X.P.underlying dst with
  | some (.int _), some (.int k) => .val 0 (u1 (cvI (kc k) (Nat.add (kLo (kc k)) 9223372036854775808) (Nat.add (kHi (kc k)) 9223372036854775808)) (cOpd X x))
  | some (.int _), some .string => .val 0 (u1 cvIS (cOpd X x))
  | some .string, some .string => .val 0 (u1 cvSS (cOpd X x))
  | some .string, some (.slice e) => (match X.P.underlying e with
    | some (.int .u8) => .eff (e1 cvSB (cOpd X x))
    | _ => .bad 168)
  | some (.slice e), some .string => (match X.P.underlying e with
    | some (.int .u8) => .val 1 (r1 cvBS (cOpd X x))
    | _ => .bad 169)
  | _, _ => .bad 170
def isIfc (P : Program) (t : TypeId) : Bool :=
  match P.underlying t with
  | some (.interface _) => true
  | none => true
  | _ => false
def asCO (X : Cx) (x : Operand) (a : TypeId) (ok : Bool) : CO X.d :=
  cT (isIfc X.P a) (.bad 173) (cT (Nat.ble (zeroA X.P a).t 24) (.val 0 (u1 (asH (zeroA X.P a) a ok) (cOpd X x))) (.bad 175))
def unCO (X : Cx) (op : UnOp) (t : TypeId) (x : Operand) : CO X.d :=
  match op with
  | .not => .val 0 (u1 notH (cOpd X x))
  | .neg => (match X.P.underlying t with
    | some (.int k) => .val 0 (u1 (negH (kc k) (Nat.add (kLo (kc k)) 9223372036854775808) (Nat.add (kHi (kc k)) 9223372036854775808)) (cOpd X x))
    | _ => .bad 176)
  | .xor => (match X.P.underlying t with
    | some (.int k) => .val 0 (u1 (cplH (kc k)) (cOpd X x))
    | _ => .bad 177)
  | _ => .bad 178
def lenCO (X : Cx) (t : TypeId) (x : Operand) : CO X.d :=
  match X.P.underlying t with
  | some .string => .val 0 (u1 lenStr (cOpd X x))
  | some (.slice _) => .val 0 (u1 lenSl (cOpd X x))
  | some (.array m _) => .val 0 (u0 (vNat 11 m))
  | some (.pointer a) => (match X.P.underlying a with
    | some (.array m _) => .val 0 (u0 (vNat 11 m))
    | _ => .bad 179)
  | some (.map _ _) => .val 1 (r1 lenMap (cOpd X x))
  | _ => .bad 180
def builtinCO (X : Cx) (b : Builtin) (ats : List TypeId) (args : List Operand) : CO X.d :=
  match b, ats, args with
  | .len, t :: _, [x] => lenCO X t x
  | .cap, t :: _, [x] => (match X.P.underlying t with
    | some (.slice _) => .val 0 (u1 capSl (cOpd X x))
    | _ => .bad 181)
  | .min, _, x :: xs => .val 0 (mmP false (cOpd X x) (xs.map (cOpd X)))
  | .max, _, x :: xs => .val 0 (mmP true (cOpd X x) (xs.map (cOpd X)))
  | .append, [t, t2], [x, y] =>
    match elemOfSlice X.P t with
    | some e => (match zeroCs X.P e, X.P.underlying t2 with
      | some _, some (.int _) => .bad 185
      | some (s, zs), some _ => .eff (e2 (appendH X.ro s (X.P.bytesOf e) zs) (cOpd X x) (cOpd X y))
      | _, _ => .bad 186)
    | none => .bad 187
  | .copy, t :: _, [x, y] =>
    match (elemOfSlice X.P t).bind (zeroCs X.P) with
    | some (s, zs) => .eff (e2 (copyH X.ro s) (cOpd X x) (cOpd X y))
    | none => .bad 188
  | .clear, t :: _, [x] =>
    match (elemOfSlice X.P t).bind (zeroCs X.P) with
    | some (s, zs) => .eff (e1 (clearH X.ro s zs) (cOpd X x))
    | none => .bad 189
  | .delete, t :: _, [m, key] =>
    match plainKey X.P t with
    | some (k, _) => .eff (e2 (mdel X.ro (keyTag X.P k)) (cOpd X m) (cOpd X key))
    | none => .bad 190
  | _, _, _ => .bad 192

/-! ## Boxes of a temporary's own: its slot holds a struct of the cells -/
def pnewH (z : Nat) (cs : List AV) : AV := aggV z cs
def pboxH (v : AV) : AV := cV (cellsOk v (cT (Nat.beq v.t 21) v.a 1)) (vAgg (cT (Nat.beq v.t 21) v.a 1) (cellsL v)) vX
def pld {d : Nat} (ag : Bool) (s o : Nat) (c : QT d → AV) (tag : Nat) (g : QT d → AV) (τ : QT d) (_ : Heap) : AV :=
  cV (bA (Nat.beq (c τ).t tag) (Nat.beq (g τ).t 21)) (cV ag (aggV s (rangeL s o (g τ).a (g τ).l)) (nthV o (g τ).l)) vX
def pstV {d : Nat} (z o : Nat) (c : QT d → AV) (tag : Nat) (g x : QT d → AV) (τ : QT d) : AV :=
  cV (bA (bA (Nat.beq (c τ).t tag) (Nat.beq (g τ).t 21)) (bA (cellsOk (x τ) z) (Nat.ble (Nat.add o z) (g τ).a)))
    (aggV (g τ).a (cL (Nat.beq z (g τ).a) (cellsL (x τ)) (spliceL o (cellsL (x τ)) (g τ).l))) vX
def padr {d : Nat} (c : QT d → AV) (tag : Nat) (τ : QT d) : AV := cV (Nat.beq (c τ).t tag) vT vX
def slot (X : Cx) (t : Nat) : QT X.d → AV := (gt X.d t).f

/-! Each kind of operation by itself: small terms -/
def coMove (X : Cx) (x : Operand) : CO X.d := .val 0 (u1 movH (cOpd X x))
def coPick (X : Cx) (c a b : Operand) : CO X.d := .val 0 (pickP (cOpd X c) (cOpd X a) (cOpd X b))
def coAlloc (X : Cx) (env : List Ad) (dst : Option Nat) (t : TypeId) : CO X.d :=
  match zeroCs X.P t with
    | some (z, cs) => (match dst with
      | some d => cT (Nat.testBit X.pb d) (cT (env.all fun a => !Nat.beq a.box d) (.pnew (cnstG (pnewH z cs))) (.bad 70)) (.new (b0 (bRow z cs)) mkP)
      | none => .bad 69)
    | none => .bad 71
def coBox (X : Cx) (env : List Ad) (dst : Option Nat) (_ : TypeId) (x : Operand) : CO X.d :=
  match dst with
      | some d => cT (Nat.testBit X.pb d) (cT (env.all fun a => !Nat.beq a.box d) (.pnew (fun τ => pboxH (cOpd X x τ))) (.bad 70)) (.new (b1 boxB (cOpd X x)) mkP)
      | none => .bad 69
def coBuild (X : Cx) (t : TypeId) (ps : Array (Nat × Operand)) : CO X.d := buildCO X t ps.toList
def coBS (X : Cx) (t : TypeId) (m : Nat) (ps : Array (Nat × Operand)) : CO X.d := bsliceCO X t m ps.toList
def coLoad (X : Cx) (env : List Ad) (t : TypeId) (a : Operand) : CO X.d :=
  match cAdr X env a with
    | some p => cT (!tyOk X.P t) (.bad 65) <| .val (Nat.add p.box 2) (pld (aggT X.P t) (szOf X.P t) p.off (slot X p.chk) p.tag (slot X p.box))
    | none => cT (!tyOk X.P t) (.bad 65) <| .val 1 (r1 (cT (aggT X.P t) (loadN (szOf X.P t)) load1) (cOpd X a))
def coStore (X : Cx) (env : List Ad) (t : TypeId) (a v : Operand) : CO X.d :=
  match cAdr X env a with
    | some p => .pst p.box (pstV (szOf X.P t) p.off (slot X p.chk) p.tag (slot X p.box) (cOpd X v))
    | none => .eff (e2 (storeH X.ro (szOf X.P t)) (cOpd X a) (cOpd X v))
def coNil (X : Cx) (x : Operand) : CO X.d := .val 0 (u1 nilH (cOpd X x))
def coBin (X : Cx) (op : BinOp) (t : TypeId) (x y : Operand) (_ : TypeId) : CO X.d := binCO X op t x y
def coMkI (X : Cx) (t : TypeId) (x : Operand) : CO X.d := cT (isIfc X.P t) (.bad 183) (.val 0 (u1 (ifcH t) (cOpd X x)))
def coMkF (X : Cx) (fn : Fn) (a b : Array Operand) : CO X.d :=
  match fn with
  | .func f => .val 0 (mkFn f (evals (a.toList.map (cOpd X))) (evals (b.toList.map (cOpd X))))
  | _ => .bad 194
def coMkM (X : Cx) (_ : TypeId) (r : Option Operand) : CO X.d :=
  match r with
  | none => .new (b0 (bX (.map [] 0))) vMap
  | _ => .bad 194
def coFa (X : Cx) (env : List Ad) (dst : Option Nat) (t : TypeId) (x : Operand) (i : Nat) : CO X.d :=
  match cAdr X env x with
    | some p => (match fieldAt' X.P t i, dst with
      | some f, some d => cT (Nat.beq (szOf X.P f.type) 0) (.bad 102) (.adr ⟨d, p.box, Nat.add p.off f.offset⟩ (padr (slot X p.chk) p.tag))
      | _, _ => .bad 103)
    | none => faCO X t x i
def coRange (X : Cx) (t : TypeId) (x : Operand) : CO X.d :=
  match X.P.underlying t with
    | some .string => .eff (e1 rangeS (cOpd X x))
    | some (.map _ _) => .eff (e1 rangeM (cOpd X x))
    | _ => .bad 195
def coNext (X : Cx) (x : Operand) (isS : Bool) : CO X.d := .eff (e1 (nextH isS) (cOpd X x))
def coEntry (X : Cx) (x : Operand) : CO X.d := .val 1 (r1 entryH (cOpd X x))
def coAs (X : Cx) (x : Operand) (_ : TypeId) (a : TypeId) (ok : Bool) : CO X.d := asCO X x a ok
def coExt (X : Cx) (x : Operand) (i : Nat) : CO X.d := .val 0 (u1 (extH i) (cOpd X x))
def coCall (X : Cx) (c : Call) : CO X.d :=
  match c.callee with
    | .builtin b => builtinCO X b c.argTypes.toList c.args.toList
    | _ => .bad 193
def bad1 {α : Type} {d : Nat} (_ : α) : CO d := .bad 194
def bad2 {α β : Type} {d : Nat} (_ : α) (_ : β) : CO d := .bad 194
def bad3 {α β γ : Type} {d : Nat} (_ : α) (_ : β) (_ : γ) : CO d := .bad 194
def bad4 {α β γ δ : Type} {d : Nat} (_ : α) (_ : β) (_ : γ) (_ : δ) : CO d := .bad 194
/-! .. with the program as an argument: what is looked up in it is the same term in all functions -/
def eqCOF (P : Program) (X : Cx) (neg : Bool) (t : TypeId) (x y : Operand) : CO X.d :=
  match P.underlying t with
  | some .bool => eqC eqBool neg (cOpd X x) (cOpd X y)
  | some (.pointer e) => cT (Nat.beq (szOf P e) 0) (.bad 40) (eqR eqPP neg (cOpd X x) (cOpd X y))
  | some (.slice _) => eqC (eqNil 6 5) neg (cOpd X x) (cOpd X y)
  | some (.map _ _) => eqC (eqNil 24 7) neg (cOpd X x) (cOpd X y)
  | some (.func _ _ _) => eqC (eqNil 18 16) neg (cOpd X x) (cOpd X y)
  | some (.interface _) => eqC (eqIfc (isC x || isC y)) neg (cOpd X x) (cOpd X y)
  | _ => .bad 42
def binCOF (P : Program) (X : Cx) (op : BinOp) (t : TypeId) (x y : Operand) : CO X.d :=
  match P.underlying t with
  | some (.int k) => (match op with
    | .shl | .shr => .val 0 (u2 (hShift op (kc k)) (cOpd X x) (cOpd X y))
    | op => .val 0 (u2 (i2 (kc k) (arithH op (kc k))) (cOpd X x) (cOpd X y)))
  | some .string => .val 0 (u2 (s2 (stringH op)) (cOpd X x) (cOpd X y))
  | _ => (match op with
    | .eql => eqCOF P X false t x y
    | .neq => eqCOF P X true t x y
    | _ => .bad 43)
def buildCOF (P : Program) (X : Cx) (t : TypeId) (parts : List (Nat × Operand)) : CO X.d :=
  cT (bA (Nat.beq (zeroA P t).a 0) (!parts.isEmpty)) (.bad 70) <|
  cT (Nat.beq (zeroA P t).t 21)
    (match P.underlying t with
     | some (.struct fs) => cT (fs.toList.all fun f => infoOk P f.type) (match partsS X (zeroA P t).a (fieldPlaces P fs) parts with
       | some ps => .val 0 (buildP (zeroA P t).a (zeroA P t).l ps)
       | none => .bad 72) (.bad 71)
     | some (.array _ e) => cT (infoOk P e) (match partsA X (szOf P e) (zeroA P t).a parts with
       | some ps => .val 0 (buildP (zeroA P t).a (zeroA P t).l ps)
       | none => .bad 74) (.bad 71)
     | _ => .bad 75) (.bad 73)
def bsliceCOF (P : Program) (X : Cx) (t : TypeId) (len : Nat) (parts : List (Nat × Operand)) : CO X.d :=
  match elemOfSlice P t with
  | none => .bad 76
  | some e =>
    match zeroCs P e with
    | none => .bad 77
    | some (s, zs) => cT (bA (parts.all (fun p => Nat.ble (Nat.succ p.1) len)) (Nat.ble (Nat.mul len s) 16777216))
        (.new (bsliceB s len zs (parts.map fun p => ⟨p.1, cOpd X p.2⟩)) (mkSl len)) (.bad 78)
def mkSliceCOF (P : Program) (X : Cx) (t : TypeId) (l c : Operand) : CO X.d :=
  match elemOfSlice P t with
  | none => .bad 84
  | some e =>
    match zeroCs P e with
    | none => .bad 85
    | some (s, zs) => .eff (mkSlH s (P.bytesOf e) zs (cOpd X l) (cOpd X c))
def faCOF (P : Program) (X : Cx) (s : TypeId) (x : Operand) (i : Nat) : CO X.d :=
  match fieldAt' P s i with
  | some f => cT (Nat.beq (szOf P f.type) 0) (.bad 100) (.val 0 (u1 (faH f.offset) (cOpd X x)))
  | none => .bad 101
def ixaCOF (P : Program) (X : Cx) (t : TypeId) (x i : Operand) : CO X.d :=
  match P.underlying t with
  | some (.slice e) => cT (infoOk P e) (.val 0 (u2 (ixS (szOf P e)) (cOpd X x) (cOpd X i))) (.bad 106)
  | some (.array m e) => cT (infoOk P e) (.val 0 (u2 (ixA (szOf P e) m) (cOpd X x) (cOpd X i))) (.bad 106)
  | _ => .bad 105
def ixCOF (P : Program) (X : Cx) (t : TypeId) (x i : Operand) : CO X.d :=
  match P.underlying t with
  | some .string => .val 0 (u2 ixStr (cOpd X x) (cOpd X i))
  | some (.array m e) => cT (tyOk P e) (.val 0 (u2 (ixArr (aggT P e) (szOf P e) m) (cOpd X x) (cOpd X i))) (.bad 107)
  | _ => .bad 108
def fldCOF (P : Program) (X : Cx) (s : TypeId) (x : Operand) (i : Nat) : CO X.d :=
  match fieldAt' P s i with
  | some f => cT (tyOk P f.type) (.val 0 (u1 (fldH (aggT P f.type) (szOf P f.type) f.offset) (cOpd X x))) (.bad 110)
  | none => .bad 109
def slCOF (P : Program) (X : Cx) (t : TypeId) (x : Operand) (lo hi mx : Option Operand) : CO X.d :=
  cT (bA mx.isSome (!hi.isSome)) (.bad 117) <|
  match P.underlying t with
  | some .string => (match mx with
    | none => .val 0 (slStr (cOpd X x) (cBd X lo) (cBd X hi))
    | some _ => .bad 119)
  | some (.slice e) => cT (Nat.beq (szOf P e) 0) (.bad 118) (.val 1 (slH (szOf P e) (cOpd X x) (cBd X lo) (cBd X hi) (cBd X mx)))
  | some (.array m e) => cT (infoOk P e) (.val 0 (slArr (szOf P e) m (cOpd X x) (cBd X lo) (cBd X hi) (cBd X mx))) (.bad 118)
  | _ => .bad 120
def lookCOF (P : Program) (X : Cx) (t : TypeId) (x i : Operand) (ok : Bool) : CO X.d :=
  match plainKey P t with
  | some (k, e) => cT (Nat.ble (zeroA P e).t 24) (.val 1 (r2 (lookH (zeroA P e) ok (keyTag P k)) (cOpd X x) (cOpd X i))) (.bad 144)
  | none => .bad 145
def mupdCOF (P : Program) (X : Cx) (t : TypeId) (m k v : Operand) : CO X.d :=
  match plainKey P t with
  | some (kt, _) => .eff (e3 (mupd X.ro (keyTag P kt)) (cOpd X m) (cOpd X k) (cOpd X v))
  | none => .bad 191
def convCOF (P : Program) (X : Cx) (src dst : TypeId) (x : Operand) : CO X.d :=
  match P.underlying src, P.underlying dst with
  | some (.int _), some (.int k) => .val 0 (u1 (cvI (kc k) (Nat.add (kLo (kc k)) 9223372036854775808) (Nat.add (kHi (kc k)) 9223372036854775808)) (cOpd X x))
  | some (.int _), some .string => .val 0 (u1 cvIS (cOpd X x))
  | some .string, some .string => .val 0 (u1 cvSS (cOpd X x))
  | some .string, some (.slice e) => (match P.underlying e with
    | some (.int .u8) => .eff (e1 cvSB (cOpd X x))
    | _ => .bad 168)
  | some (.slice e), some .string => (match P.underlying e with
    | some (.int .u8) => .val 1 (r1 cvBS (cOpd X x))
    | _ => .bad 169)
  | _, _ => .bad 170
def asCOF (P : Program) (X : Cx) (x : Operand) (a : TypeId) (ok : Bool) : CO X.d :=
  cT (isIfc P a) (.bad 173) (cT (Nat.ble (zeroA P a).t 24) (.val 0 (u1 (asH (zeroA P a) a ok) (cOpd X x))) (.bad 175))
def unCOF (P : Program) (X : Cx) (op : UnOp) (t : TypeId) (x : Operand) : CO X.d :=
  match op with
  | .not => .val 0 (u1 notH (cOpd X x))
  | .neg => (match P.underlying t with
    | some (.int k) => .val 0 (u1 (negH (kc k) (Nat.add (kLo (kc k)) 9223372036854775808) (Nat.add (kHi (kc k)) 9223372036854775808)) (cOpd X x))
    | _ => .bad 176)
  | .xor => (match P.underlying t with
    | some (.int k) => .val 0 (u1 (cplH (kc k)) (cOpd X x))
    | _ => .bad 177)
  | _ => .bad 178
def lenCOF (P : Program) (X : Cx) (t : TypeId) (x : Operand) : CO X.d :=
  match P.underlying t with
  | some .string => .val 0 (u1 lenStr (cOpd X x))
  | some (.slice _) => .val 0 (u1 lenSl (cOpd X x))
  | some (.array m _) => .val 0 (u0 (vNat 11 m))
  | some (.pointer a) => (match P.underlying a with
    | some (.array m _) => .val 0 (u0 (vNat 11 m))
    | _ => .bad 179)
  | some (.map _ _) => .val 1 (r1 lenMap (cOpd X x))
  | _ => .bad 180
def builtinCOF (P : Program) (X : Cx) (b : Builtin) (ats : List TypeId) (args : List Operand) : CO X.d :=
  match b, ats, args with
  | .len, t :: _, [x] => lenCOF P X t x
  | .cap, t :: _, [x] => (match P.underlying t with
    | some (.slice _) => .val 0 (u1 capSl (cOpd X x))
    | _ => .bad 181)
  | .min, _, x :: xs => .val 0 (mmP false (cOpd X x) (xs.map (cOpd X)))
  | .max, _, x :: xs => .val 0 (mmP true (cOpd X x) (xs.map (cOpd X)))
  | .append, [t, t2], [x, y] =>
    match elemOfSlice P t with
    | some e => (match zeroCs P e, P.underlying t2 with
      | some _, some (.int _) => .bad 185
      | some (s, zs), some _ => .eff (e2 (appendH X.ro s (P.bytesOf e) zs) (cOpd X x) (cOpd X y))
      | _, _ => .bad 186)
    | none => .bad 187
  | .copy, t :: _, [x, y] =>
    match (elemOfSlice P t).bind (zeroCs P) with
    | some (s, zs) => .eff (e2 (copyH X.ro s) (cOpd X x) (cOpd X y))
    | none => .bad 188
  | .clear, t :: _, [x] =>
    match (elemOfSlice P t).bind (zeroCs P) with
    | some (s, zs) => .eff (e1 (clearH X.ro s zs) (cOpd X x))
    | none => .bad 189
  | .delete, t :: _, [m, key] =>
    match plainKey P t with
    | some (k, _) => .eff (e2 (mdel X.ro (keyTag P k)) (cOpd X m) (cOpd X key))
    | none => .bad 190
  | _, _, _ => .bad 192
def coAllocF (P : Program) (X : Cx) (env : List Ad) (dst : Option Nat) (t : TypeId) : CO X.d :=
  match zeroCs P t with
    | some (z, cs) => (match dst with
      | some d => cT (Nat.testBit X.pb d) (cT (env.all fun a => !Nat.beq a.box d) (.pnew (cnstG (pnewH z cs))) (.bad 70)) (.new (b0 (bRow z cs)) mkP)
      | none => .bad 69)
    | none => .bad 71
def coBuildF (P : Program) (X : Cx) (t : TypeId) (ps : Array (Nat × Operand)) : CO X.d := buildCOF P X t ps.toList
def coBSF (P : Program) (X : Cx) (t : TypeId) (m : Nat) (ps : Array (Nat × Operand)) : CO X.d := bsliceCOF P X t m ps.toList
def coLoadF (P : Program) (X : Cx) (env : List Ad) (t : TypeId) (a : Operand) : CO X.d :=
  match cAdr X env a with
    | some p => cT (!tyOk P t) (.bad 65) <| .val (Nat.add p.box 2) (pld (aggT P t) (szOf P t) p.off (slot X p.chk) p.tag (slot X p.box))
    | none => cT (!tyOk P t) (.bad 65) <| .val 1 (r1 (cT (aggT P t) (loadN (szOf P t)) load1) (cOpd X a))
def coStoreF (P : Program) (X : Cx) (env : List Ad) (t : TypeId) (a v : Operand) : CO X.d :=
  match cAdr X env a with
    | some p => .pst p.box (pstV (szOf P t) p.off (slot X p.chk) p.tag (slot X p.box) (cOpd X v))
    | none => .eff (e2 (storeH X.ro (szOf P t)) (cOpd X a) (cOpd X v))
def coBinF (P : Program) (X : Cx) (op : BinOp) (t : TypeId) (x y : Operand) (_ : TypeId) : CO X.d := binCOF P X op t x y
def coMkIF (P : Program) (X : Cx) (t : TypeId) (x : Operand) : CO X.d := cT (isIfc P t) (.bad 183) (.val 0 (u1 (ifcH t) (cOpd X x)))
def coFaF (P : Program) (X : Cx) (env : List Ad) (dst : Option Nat) (t : TypeId) (x : Operand) (i : Nat) : CO X.d :=
  match cAdr X env x with
    | some p => (match fieldAt' P t i, dst with
      | some f, some d => cT (Nat.beq (szOf P f.type) 0) (.bad 102) (.adr ⟨d, p.box, Nat.add p.off f.offset⟩ (padr (slot X p.chk) p.tag))
      | _, _ => .bad 103)
    | none => faCOF P X t x i
def coRangeF (P : Program) (X : Cx) (t : TypeId) (x : Operand) : CO X.d :=
  match P.underlying t with
    | some .string => .eff (e1 rangeS (cOpd X x))
    | some (.map _ _) => .eff (e1 rangeM (cOpd X x))
    | _ => .bad 195
def coAsF (P : Program) (X : Cx) (x : Operand) (_ : TypeId) (a : TypeId) (ok : Bool) : CO X.d := asCOF P X x a ok
def coCallF (P : Program) (X : Cx) (c : Call) : CO X.d :=
  match c.callee with
    | .builtin b => builtinCOF P X b c.argTypes.toList c.args.toList
    | _ => .bad 193
def cCOF (P : Program) (X : Cx) (env : List Ad) (o : Oper) : CO X.d :=
  Op.casesOn (motive := fun _ => CO X.d) o.op (coMove X) (coMove X) (coPick X) (coAllocF P X env o.dst) (coBox X env o.dst) (coBuildF P X) (coBSF P X) (mupdCOF P X) (coLoadF P X env) (coStoreF P X env) bad1 bad1 (coNil X) (coBinF P X) (unCOF P X) (convCOF P X) bad2
    (coMkIF P X) (coMkF X) (coMkM X) bad2 (mkSliceCOF P X) (slCOF P X) (coFaF P X env o.dst) (fldCOF P X) (ixaCOF P X) (ixCOF P X) (lookCOF P X) (mupdCOF P X) bad3 bad4 (coRangeF P X) (coNext X) (coEntry X) (coAsF P X) (coExt X) (coCallF P X) bad1 bad1 bad1 bad2 bad3 bad2
def cCO (X : Cx) (env : List Ad) (o : Oper) : CO X.d := Cx.casesOn (motive := fun _ => CO X.d) X (fun P _ _ _ _ _ => cCOF P X env o)
/-- the same, in one place -/
def cCOs (X : Cx) (env : List Ad) (o : Oper) : CO X.d :=
  match o.op with
  | .move x | .assign x => .val 0 (u1 movH (cOpd X x))
  | .pick c a b => .val 0 (pickP (cOpd X c) (cOpd X a) (cOpd X b))
  | .alloc t => (match zeroCs X.P t with
    | some (z, cs) => (match o.dst with
      | some d => cT (Nat.testBit X.pb d) (cT (env.all fun a => !Nat.beq a.box d) (.pnew (cnstG (pnewH z cs))) (.bad 70)) (.new (b0 (bRow z cs)) mkP)
      | none => .bad 69)
    | none => .bad 71)
  | .box _ x => (match o.dst with
      | some d => cT (Nat.testBit X.pb d) (cT (env.all fun a => !Nat.beq a.box d) (.pnew (fun τ => pboxH (cOpd X x τ))) (.bad 70)) (.new (b1 boxB (cOpd X x)) mkP)
      | none => .bad 69)
  | .build t ps => buildCO X t ps.toList
  | .buildSlice t m ps => bsliceCO X t m ps.toList
  | .load t a => (match cAdr X env a with
    | some p => cT (!tyOk X.P t) (.bad 65) <| .val (Nat.add p.box 2) (pld (aggT X.P t) (szOf X.P t) p.off (slot X p.chk) p.tag (slot X p.box))
    | none => cT (!tyOk X.P t) (.bad 65) <| .val 1 (r1 (cT (aggT X.P t) (loadN (szOf X.P t)) load1) (cOpd X a)))
  | .store t a v => (match cAdr X env a with
    | some p => .pst p.box (pstV (szOf X.P t) p.off (slot X p.chk) p.tag (slot X p.box) (cOpd X v))
    | none => .eff (e2 (storeH X.ro (szOf X.P t)) (cOpd X a) (cOpd X v)))
  | .nilCheck x => .val 0 (u1 nilH (cOpd X x))
  | .binOp op t x y _ => binCO X op t x y
  | .unOp op t x => unCO X op t x
  | .convert a b x => convCO X a b x
  | .makeInterface t x => cT (isIfc X.P t) (.bad 183) (.val 0 (u1 (ifcH t) (cOpd X x)))
  | .makeFunc (.func f) a b => .val 0 (mkFn f (evals (a.toList.map (cOpd X))) (evals (b.toList.map (cOpd X))))
  | .makeMap _ none => .new (b0 (bX (.map [] 0))) vMap
  | .makeSlice t l c => mkSliceCO X t l c
  | .slice t x lo hi mx => slCO X t x lo hi mx
  | .fieldAddr t x i => (match cAdr X env x with
    | some p => (match fieldAt' X.P t i, o.dst with
      | some f, some d => cT (Nat.beq (szOf X.P f.type) 0) (.bad 102) (.adr ⟨d, p.box, Nat.add p.off f.offset⟩ (padr (slot X p.chk) p.tag))
      | _, _ => .bad 103)
    | none => faCO X t x i)
  | .field t x i => fldCO X t x i
  | .indexAddr t x i => ixaCO X t x i
  | .index t x i => ixCO X t x i
  | .lookup t x i ok => lookCO X t x i ok
  | .mapUpdate t m k v | .insert t m k v => mupdCO X t m k v
  | .range t x => (match X.P.underlying t with
    | some .string => .eff (e1 rangeS (cOpd X x))
    | some (.map _ _) => .eff (e1 rangeM (cOpd X x))
    | _ => .bad 195)
  | .next x isS => .eff (e1 (nextH isS) (cOpd X x))
  | .entry x => .val 1 (r1 entryH (cOpd X x))
  | .typeAssert x _ a ok => asCO X x a ok
  | .extract x i => .val 0 (u1 (extH i) (cOpd X x))
  | .call c => (match c.callee with
    | .builtin b => builtinCO X b c.argTypes.toList c.args.toList
    | _ => .bad 193)
  | _ => .bad 194
theorem cCO_eq (X : Cx) (env : List Ad) (o : Oper) : cCO X env o = cCOs X env o := by
  obtain ⟨dst, op, t, pos, af, g⟩ := o
  cases op with
  | makeFunc fn a b => cases fn <;> rfl
  | makeMap t r => cases r <;> rfl
  | _ => rfl
end Go.Ev
end

/-! The evaluator, part 4: regions, code, functions. -/
noncomputable section
set_option linter.unusedVariables false
namespace Go.Ev

/-! ## Operations in a region -/
/-- what a region is run with -/
structure RK (d : Nat) where
  call : CallT
  kn : QT d → Heap → Ans
  kx : Ex → QT d → Heap → Ans
structure OpR (d : Nat) where
  run : QT d → Heap → RK d → Ans
structure PutC (d : Nat) where
  f : QT d → RK d → AV → Heap → Ans

def failR {d : Nat} (w : Nat) (_ : QT d) (_ : Heap) (_ : RK d) : Ans := .fail w
def failP {d : Nat} (w : Nat) (_ : QT d) (_ : RK d) (_ : AV) (_ : Heap) : Ans := .fail w
def kRest {d : Nat} (r : QT d → Heap → RK d → Ans) (H : Heap) (K : RK d) (τ : QT d) : Ans := r τ H K
def putN {d : Nat} (r : QT d → Heap → RK d → Ans) (τ : QT d) (K : RK d) (v : AV) (H : Heap) : Ans := okA v (r τ H K)
def putS' {d : Nat} (s : QT d → AV → (QT d → Ans) → Ans) (r : QT d → Heap → RK d → Ans) (τ : QT d) (K : RK d) (v : AV) (H : Heap) : Ans := okA v (s τ v (kRest r H K))
/-- where a result goes -/
def putC (X : Cx) (dst : Option Nat) (r : OpR X.d) : PutC X.d :=
  match dst with
  | none => ⟨putN r.run⟩
  | some t => ⟨cT (isPlain X t) (putS' (st X.d t).f r.run) (failP 200)⟩
def runSkipN {d : Nat} (r : QT d → Heap → RK d → Ans) (τ : QT d) (H : Heap) (K : RK d) : Ans := r τ H K
def runSkip {d : Nat} (s : QT d → AV → (QT d → Ans) → Ans) (r : QT d → Heap → RK d → Ans) (τ : QT d) (H : Heap) (K : RK d) : Ans := s τ undefA (kRest r H K)
/-- an operation that its guard leaves out -/
def skipC (X : Cx) (dst : Option Nat) (r : OpR X.d) : OpR X.d :=
  match dst with
  | none => r
  | some t => ⟨cT (Nat.ble (Nat.succ t) X.nt) (runSkip (st X.d t).f r.run) (failR 201)⟩
def runVal {d : Nat} (f : QT d → Heap → AV) (p : QT d → RK d → AV → Heap → Ans) (τ : QT d) (H : Heap) (K : RK d) : Ans := p τ K (f τ H) H
def runNew {d : Nat} (f : QT d → AB) (mk : Nat → AV) (p : QT d → RK d → AV → Heap → Ans) (τ : QT d) (H : Heap) (K : RK d) : Ans :=
  cA (Nat.beq (f τ).t 0) (.fail 202) (hnewK H (f τ) fun b H' => p τ K (mk b) H')
def runEff {d : Nat} (f : QT d → Heap → KR → Ans) (p : QT d → RK d → AV → Heap → Ans) (τ : QT d) (H : Heap) (K : RK d) : Ans := f τ H (p τ K)
def runSet {d : Nat} (t : Nat) (f : QT d → AV) (s : QT d → AV → (QT d → Ans) → Ans) (r : QT d → Heap → RK d → Ans) (τ : QT d) (H : Heap) (K : RK d) : Ans :=
  tA (f τ) t (s τ (f τ) (kRest r H K))
def runCO (X : Cx) (co : CO X.d) (dst : Option Nat) (r : OpR X.d) : OpR X.d :=
  match co with
  | .bad w => ⟨failR w⟩
  | .val _ f => ⟨runVal f (putC X dst r).f⟩
  | .new f mk => ⟨runNew f mk (putC X dst r).f⟩
  | .eff f => ⟨runEff f (putC X dst r).f⟩
  | .pnew f => (match dst with
    | some t => ⟨cT (bA (Nat.testBit X.pb t) (Nat.ble (Nat.succ t) X.nt)) (runSet 21 f (st X.d t).f r.run) (failR 203)⟩
    | none => ⟨failR 204⟩)
  | .pst b f => (match dst with
    | none => ⟨cT (bA (Nat.testBit X.pb b) (Nat.ble (Nat.succ b) X.nt)) (runSet 21 f (st X.d b).f r.run) (failR 203)⟩
    | some _ => ⟨failR 205⟩)
  | .adr a f => ⟨cT (bA (bA (Nat.testBit X.ad a.t) (!Nat.testBit X.pb a.t)) (Nat.ble (Nat.succ a.t) X.nt)) (runSet 1 f (st X.d a.t).f r.run) (failR 206)⟩
def kPan {d : Nat} (K : RK d) (τ : QT d) (v : AV) (H : Heap) : Ans := K.kx (.pan v) τ H
def callSt2 {d : Nat} (f : Nat) (p : QT d → RK d → AV → Heap → Ans) (τ : QT d) (H : Heap) (K : RK d) (as : List AV) : Ans :=
  cA (okL as) (K.call (Nat.succ f) as H (p τ K) (kPan K τ)) (.fail 207)
def runCallSt {d : Nat} (f : Nat) (args : QT d → List AV) (p : QT d → RK d → AV → Heap → Ans) (τ : QT d) (H : Heap) (K : RK d) : Ans := callSt2 f p τ H K (args τ)
def appL (l m : List AV) : List AV := List.rec (motive := fun _ => List AV) m (fun v _ ih => v :: ih) l
def callFn {d : Nat} (fv : AV) (as : List AV) (p : QT d → RK d → AV → Heap → Ans) (τ : QT d) (H : Heap) (K : RK d) : Ans :=
  cA (okL as) (cA (Nat.beq fv.t 16) (K.call (Nat.succ fv.a) (appL fv.l (appL as fv.m)) H (p τ K) (kPan K τ)) <|
    tA fv 17 (K.call 0 (fv :: as) H (p τ K) (kPan K τ))) (.fail 207)
def runCall {d : Nat} (f : QT d → AV) (args : QT d → List AV) (p : QT d → RK d → AV → Heap → Ans) (τ : QT d) (H : Heap) (K : RK d) : Ans := callFn (f τ) (args τ) p τ H K
def runPanic {d : Nat} (x : QT d → AV) (τ : QT d) (H : Heap) (K : RK d) : Ans := tA (x τ) 19 (K.kx (.pan (x τ)) τ H)
def defer2 {d : Nat} (gd : QT d → AV) (sd : QT d → AV → (QT d → Ans) → Ans) (fv : AV) (as : List AV) (r : QT d → Heap → RK d → Ans) (τ : QT d) (H : Heap) (K : RK d) : Ans :=
  cA (okL as) (tA fv 16 (tA (gd τ) 22 (sd τ (vTup (vFn fv.a (appL fv.l as) fv.m :: (gd τ).l)) (kRest r H K)))) (.fail 207)
def runDefer {d : Nat} (gd : QT d → AV) (sd : QT d → AV → (QT d → Ans) → Ans) (x : QT d → AV) (args : QT d → List AV) (r : QT d → Heap → RK d → Ans) (τ : QT d) (H : Heap) (K : RK d) : Ans :=
  defer2 gd sd (x τ) (args τ) r τ H K
/-- recover: slot nt + 1 holds what it may return -/
def recN {d : Nat} (sr : QT d → AV → (QT d → Ans) → Ans) (p : QT d → RK d → AV → Heap → Ans) (v : AV) (H : Heap) (K : RK d) (τ : QT d) : Ans := p τ K v H
def runRec {d : Nat} (gr : QT d → AV) (sr : QT d → AV → (QT d → Ans) → Ans) (p : QT d → RK d → AV → Heap → Ans) (τ : QT d) (H : Heap) (K : RK d) : Ans :=
  tA (gr τ) 22 (match (gr τ).l with
    | [] => p τ K vNili H
    | [v] => sr τ (vTup [v, v]) (recN sr p v H K)
    | _ => .fail 208)
/-- an operation that is no call -/
def isCtl (o : Op) : Bool :=
  match o with
  | .call c => (match c.callee with | .builtin .recover => true | .builtin _ => false | _ => true)
  | .defer _ | .panic _ => true
  | _ => false
def ctlC (X : Cx) (rec : Bool) (o : Oper) (r : OpR X.d) : OpR X.d :=
  match o.op with
  | .call c => (match c.callee with
    | .builtin .recover => cT rec ⟨runRec (st' X 1) (st X.d (Nat.add X.nt 1)).f (putC X o.dst r).f⟩ ⟨failR 209⟩
    | .value (.func f) => ⟨runCallSt f (evals (c.args.toList.map (cOpd X))) (putC X o.dst r).f⟩
    | .value f => ⟨runCall (cOpd X f) (evals (c.args.toList.map (cOpd X))) (putC X o.dst r).f⟩
    | _ => ⟨failR 210⟩)
  | .defer c => (match c.callee, o.dst with
    | .value f, none => ⟨runDefer (st' X 0) (st X.d X.nt).f (cOpd X f) (evals (c.args.toList.map (cOpd X))) r.run⟩
    | _, _ => ⟨failR 211⟩)
  | .panic x => ⟨runPanic (cOpd X x)⟩
  | _ => ⟨failR 212⟩
where st' (X : Cx) (i : Nat) : QT X.d → AV := (gt X.d (Nat.add X.nt i)).f
def op1 (X : Cx) (rec : Bool) (co : CO X.d) (o : Oper) (r : OpR X.d) : OpR X.d := cT (isCtl o.op) (ctlC X rec o r) (runCO X co o.dst r)
def runGuard {d : Nat} (g : QT d → AV) (want : Bool) (r s : QT d → Heap → RK d → Ans) (τ : QT d) (H : Heap) (K : RK d) : Ans :=
  cA (Nat.beq (g τ).t 1) (cA want (r τ H K) (s τ H K)) <|
  cA (Nat.beq (g τ).t 0) (cA want (s τ H K) (r τ H K)) <|
  cA (bA (Nat.beq (g τ).t 22) (nilB (g τ).l)) (s τ H K) (.fail 213)
/-- .. under its guard -/
def cOp (X : Cx) (rec : Bool) (ops : List Oper) (co : CO X.d) (o : Oper) (r : OpR X.d) : OpR X.d :=
  match o.guard with
  | none => op1 X rec co o r
  | some (j, want) =>
    match (ops[j]?).bind (·.dst) with
    | some t => ⟨runGuard (cTmp X t) want (op1 X rec co o r).run (skipC X o.dst r).run⟩
    | none => ⟨failR 214⟩
def envOf {d : Nat} (co : CO d) (env : List Ad) : List Ad := match co with | .adr a _ => a :: env | _ => env
def runEnd {d : Nat} (τ : QT d) (H : Heap) (K : RK d) : Ans := K.kn τ H
/-- no address in a box that is written -/
def envFree (env : List Ad) (dst : Option Nat) : Bool := match dst with | some t => env.all fun a => !Nat.beq a.box t | none => true
def cOps (X : Cx) (rec : Bool) (ops : List Oper) : List Ad → List Oper → OpR X.d
  | _, [] => ⟨runEnd⟩
  | env, o :: os => cT (envFree env o.dst) (cOp X rec ops (cCO X env o) o (cOps X rec ops (envOf (cCO X env o) env) os)) ⟨failR 198⟩
/-- each temporary is written at most once -/
def nodupD : List Oper → Nat → Bool
  | [], _ => true
  | o :: os, m => match o.dst with
    | none => nodupD os m
    | some t => cT (Nat.testBit m t) false (nodupD os (Nat.lor m (Nat.pow 2 t)))

/-! ### Regions that draw their order -/
structure Row where
  i : Nat
  o : Oper
  /-- may do something to the heap, or control -/
  eff : Bool
  /-- what must come ahead of it -/
  anc : Nat
def orBits (acc : List Nat) : List Edge → Nat
  | [] => 0
  | e :: es => cT (Region.binds .any e) (Nat.lor (Nat.lor (Nat.pow 2 e.on) (acc.getD e.on 0)) (orBits acc es)) (orBits acc es)
/-- the ancestors, operation by operation -/
def ancs : List Oper → List Nat → List Nat
  | [], acc => acc
  | o :: os, acc => ancs os (acc ++ [orBits acc o.after.toList])
def isEff (o : Op) : Bool :=
  match o with
  | .assign _ | .store .. | .insert .. | .mapUpdate .. | .next .. | .range .. | .defer _ | .panic _ | .makeSlice .. => true
  | .convert .. => false
  | .call c => (match c.callee with
    | .builtin .len | .builtin .cap | .builtin .min | .builtin .max => false
    | _ => true)
  | _ => false
def mkRows (X : Cx) : Nat → List Oper → List Nat → List Row
  | i, o :: os, a :: as => ⟨i, o, cT (isEff o.op) true (match cCO X [] o with | .eff _ => true | _ => false), a⟩ :: mkRows X (i + 1) os as
  | _, _, _ => []
/-- ahead of each effect the rows that need not come behind it -/
def planFrom : List Row → List Row → List Row
  | [], rows => rows
  | e :: es, rows => rows.filter (fun r => !Nat.testBit r.anc e.i) ++ e :: planFrom es (rows.filter fun r => Nat.testBit r.anc e.i)
def planOf (rows : List Row) : List Row := planFrom (rows.filter (·.eff)) (rows.filter fun r => !r.eff)
/-- the slots that an operation looks at -/
def opdL : Operand → List Nat
  | .tmp t => [t]
  | _ => []
def usesO (ops : List Oper) (o : Oper) : List Nat :=
  (match o.guard with | some (j, _) => ((ops[j]?).bind (·.dst)).toList | none => []) ++ o.op.operands.toList.flatMap opdL
/-- .. and the box -/
def usesC {d : Nat} (co : CO d) : List Nat :=
  match co with
  | .val k _ => cT (Nat.ble 2 k) [Nat.sub k 2] []
  | .pst b _ => [b]
  | .adr a _ => [a.box]
  | _ => []
structure Dn (d : Nat) where
  r : Row
  co : CO d
/-- does what o does turn what a value of kind k looks at? -/
def turns {d : Nat} (ctl : Bool) (co : CO d) (k : Nat) : Bool :=
  cT ctl (Nat.beq k 1) (match co with
    | .eff _ => Nat.beq k 1
    | .pst b _ => Nat.beq k (Nat.add b 2)
    | _ => false)
mutual
def avEq : AV → AV → Bool
  | ⟨t, a, b, c, d, l, m⟩, ⟨t', a', b', c', d', l', m'⟩ =>
    bA (Nat.beq t t') (bA (Nat.beq a a') (bA (Nat.beq b b') (bA (Nat.beq c c') (bA (Nat.beq d d') (bA (avEqs l l') (avEqs m m'))))))
def avEqs : List AV → List AV → Bool
  | [], [] => true
  | a :: as, b :: bs => bA (avEq a b) (avEqs as bs)
  | _, _ => false
end
def runVer {d : Nat} (f : QT d → Heap → AV) (g : QT d → AV) (r : QT d → Heap → RK d → Ans) (τ : QT d) (H : Heap) (K : RK d) : Ans :=
  cA (avEq (f τ H) (g τ)) (r τ H K) (.fail 215)
def verC (X : Cx) (ops : List Oper) (n : Dn X.d) (r : OpR X.d) : OpR X.d :=
  match n.co, n.r.o.dst with
  | .val _ f, some t =>
    (match n.r.o.guard with
     | none => ⟨runVer f (slot X t) r.run⟩
     | some (j, want) => (match (ops[j]?).bind (·.dst) with
       | some u => ⟨runGuard (cTmp X u) want (runVer f (slot X t) r.run) r.run⟩
       | none => ⟨failR 214⟩))
  | _, _ => ⟨failR 216⟩
def cVer (X : Cx) (ops : List Oper) : List (Dn X.d) → OpR X.d → OpR X.d
  | [], r => r
  | n :: ns, r => verC X ops n (cVer X ops ns r)
/-- the values worked out ahead of e that e might turn, though it need not come behind them -/
def toVer {d : Nat} (ctl : Bool) (e : Row) (co : CO d) (dn : List (Dn d)) : List (Dn d) :=
  dn.filter fun n => match n.co with
    | .val k _ => bA (turns ctl co k) (!Nat.testBit e.anc n.r.i)
    | _ => false
def isNew {d : Nat} (co : CO d) : Bool := match co with | .new _ _ => true | _ => false
/-- .. that a new block might turn (it does not; it is easier looked at again than shown) -/
def toNew {d : Nat} (dn : List (Dn d)) : List (Dn d) :=
  dn.filter fun n => match n.co with
    | .val k _ => bA (Nat.beq k 1) (dn.all fun e => cT e.r.eff (!Nat.testBit e.r.anc n.r.i) true)
    | _ => false
/-- a row fits behind those that are done: what must come ahead of it has; whatever has an effect comes ahead of it; what it looks at is written; what it writes nobody has written, and has been looked at only by what must come ahead of it -/
def rowOk {d : Nat} (ops : List Oper) (dn : List (Dn d)) (doneM : Nat) (r : Row) (co : CO d) : Bool :=
  bA (!Nat.testBit doneM r.i) <| bA (Nat.beq (Nat.land r.anc doneM) r.anc) <|
  bA (dn.all fun n => cT n.r.eff (Nat.testBit r.anc n.r.i) true) <|
  bA ((usesO ops r.o ++ usesC co).all fun t => dn.all fun n => cT (n.r.o.dst == some t) (Nat.testBit r.anc n.r.i) true) <|
  bA (match r.o.dst with
    | none => true
    | some t => bA (cT r.eff true (!(usesO ops r.o ++ usesC co).contains t)) (dn.all fun n => bA (!(n.r.o.dst == some t)) (cT ((usesO ops n.r.o ++ usesC n.co).contains t) (bA r.eff (Nat.testBit r.anc n.r.i)) true)))
   (cT r.eff (match co with | .new _ _ | .pnew _ | .adr _ _ => false | _ => true) (match co with | .val _ _ | .new _ _ | .pnew _ | .adr _ _ => !isCtl r.o.op | _ => false))
/-- the whole plan fits -/
def planOk (X : Cx) (ops : List Oper) : List Ad → List (Dn X.d) → Nat → List Row → Bool
  | _, _, m, [] => Nat.beq m (Nat.sub (Nat.pow 2 ops.length) 1)
  | env, dn, m, r :: rs => bA (envFree env r.o.dst) <| bA (rowOk ops dn m r (cCO X env r.o)) <|
    planOk X ops (envOf (cCO X env r.o) env) (⟨r, cCO X env r.o⟩ :: dn) (Nat.lor m (Nat.pow 2 r.i)) rs
def cPlan (X : Cx) (ops : List Oper) : List Ad → List (Dn X.d) → List Row → OpR X.d
  | _, _, [] => ⟨runEnd⟩
  | env, dn, r :: rs =>
    cOp X false ops (cCO X env r.o) r.o
      (cVer X ops (cT r.eff (toVer (isCtl r.o.op) r (cCO X env r.o) dn) (cT (isNew (cCO X env r.o)) (toNew dn) []))
        (cPlan X ops (envOf (cCO X env r.o) env) (⟨r, cCO X env r.o⟩ :: dn) rs))
/-- the temporaries that free rows write: a panic in the region forgets them, since some may be written early -/
def freeT (X : Cx) (rows : List Row) : List Nat :=
  rows.filterMap fun r => cT r.eff none (match r.o.dst with | some t => cT (Nat.ble (Nat.succ t) X.nt) (some t) none | none => none)
def wipeK (d : Nat) : List Nat → QT d → (QT d → Ans) → Ans
  | [], τ, k => k τ
  | t :: ts, τ, k => (st d t).f τ vX fun τ' => wipeK d ts τ' k
def kxW (d : Nat) (ts : List Nat) (kx : Ex → QT d → Heap → Ans) (e : Ex) (τ : QT d) (H : Heap) : Ans := wipeK d ts τ fun τ' => kx e τ' H
def runW (d : Nat) (ts : List Nat) (r : QT d → Heap → RK d → Ans) (τ : QT d) (H : Heap) (K : RK d) : Ans := r τ H ⟨K.call, K.kn, kxW d ts K.kx⟩
def drawnP (X : Cx) (ops : List Oper) (rows : List Row) : OpR X.d := cT (planOk X ops [] [] 0 (planOf rows)) ⟨runW X.d (freeT X rows) (cPlan X ops [] [] (planOf rows)).run⟩ ⟨failR 218⟩
def drawnR (X : Cx) (ops : List Oper) : OpR X.d := drawnP X ops (mkRows X 0 ops (ancs ops []))

/-! ## Code -/
structure Cl (d : Nat) where
  run : CallT → QT d → Heap → (QT d → Heap → Ans) → (Ex → QT d → Heap → Ans) → Ans
abbrev ClT (d : Nat) := CallT → QT d → Heap → (QT d → Heap → Ans) → (Ex → QT d → Heap → Ans) → Ans
def kLoop {d : Nat} (ih : CallT → QT d → Heap → (Ex → QT d → Heap → Ans) → Ans) (call : CallT) (kx : Ex → QT d → Heap → Ans) (τ : QT d) (H : Heap) : Ans := ih call τ H kx
def loopS {d : Nat} (c : ClT d) (ih : CallT → QT d → Heap → (Ex → QT d → Heap → Ans) → Ans) (call : CallT) (τ : QT d) (H : Heap) (kx : Ex → QT d → Heap → Ans) : Ans :=
  c call τ H (kLoop ih call kx) kx
def loopZ {d : Nat} (_ : CallT) (_ : QT d) (_ : Heap) (_ : Ex → QT d → Heap → Ans) : Ans := .fail 220
def loopN {d : Nat} (c : ClT d) (n : Nat) : CallT → QT d → Heap → (Ex → QT d → Heap → Ans) → Ans :=
  Nat.rec (motive := fun _ => CallT → QT d → Heap → (Ex → QT d → Heap → Ans) → Ans) loopZ (fun _ ih => loopS c ih) n
def loopFuel : Nat := 100000000
def xSkip {d : Nat} (_ : CallT) (τ : QT d) (H : Heap) (kn : QT d → Heap → Ans) (_ : Ex → QT d → Heap → Ans) : Ans := kn τ H
def xRegion {d : Nat} (r : QT d → Heap → RK d → Ans) (call : CallT) (τ : QT d) (H : Heap) (kn : QT d → Heap → Ans) (kx : Ex → QT d → Heap → Ans) : Ans := r τ H ⟨call, kn, kx⟩
def kSeq {d : Nat} (y : ClT d) (call : CallT) (kn : QT d → Heap → Ans) (kx : Ex → QT d → Heap → Ans) (τ : QT d) (H : Heap) : Ans := y call τ H kn kx
def xSeq {d : Nat} (x y : ClT d) (call : CallT) (τ : QT d) (H : Heap) (kn : QT d → Heap → Ans) (kx : Ex → QT d → Heap → Ans) : Ans := x call τ H (kSeq y call kn kx) kx
def xCond {d : Nat} (g : QT d → AV) (x y : ClT d) (call : CallT) (τ : QT d) (H : Heap) (kn : QT d → Heap → Ans) (kx : Ex → QT d → Heap → Ans) : Ans :=
  cA (Nat.beq (g τ).t 1) (x call τ H kn kx) (tA (g τ) 0 (y call τ H kn kx))
def kBlock {d : Nat} (id : Nat) (kn : QT d → Heap → Ans) (kx : Ex → QT d → Heap → Ans) (e : Ex) (τ : QT d) (H : Heap) : Ans :=
  match e with
  | .j (.exit id') => cA (Nat.beq id' id) (kn τ H) (kx e τ H)
  | _ => kx e τ H
def xBlock {d : Nat} (id : Nat) (x : ClT d) (call : CallT) (τ : QT d) (H : Heap) (kn : QT d → Heap → Ans) (kx : Ex → QT d → Heap → Ans) : Ans := x call τ H kn (kBlock id kn kx)
def xLoop {d : Nat} (x : ClT d) (call : CallT) (τ : QT d) (H : Heap) (_ : QT d → Heap → Ans) (kx : Ex → QT d → Heap → Ans) : Ans := loopN x loopFuel call τ H kx
def xJump {d : Nat} (j : Jmp) (_ : CallT) (τ : QT d) (H : Heap) (_ : QT d → Heap → Ans) (kx : Ex → QT d → Heap → Ans) : Ans := kx (.j j) τ H
def xFail {d : Nat} (w : Nat) (_ : CallT) (_ : QT d) (_ : Heap) (_ : QT d → Heap → Ans) (_ : Ex → QT d → Heap → Ans) : Ans := .fail w
/-- the loop's record -/
def getLoopK (H : Heap) (l : Nat) (k : Nat → Option Jmp → (d : Nat) → QT d → List Nat → Code → Code → Nat → Nat → Nat → Ans) : Ans :=
  match axOf (hget H l) with
  | .loop st pend d tm ps asg body fn db nt => k st pend d tm ps asg body fn db nt
  | _ => .fail 221
def rangeEnd {d : Nat} (l : Nat) (kn : QT d → Heap → Ans) (kx : Ex → QT d → Heap → Ans) (τ : QT d) (_ : AV) (H : Heap) : Ans :=
  getLoopK H l fun st pend d' tm ps asg body fn db nt =>
    cA (Nat.beq st 1) (.fail 222) (match pend with
      | none => kn τ (hset H l (bX (.loop 3 pend d' tm ps asg body fn db nt)))
      | some (.goto _) => .fail 241
      | some j => kx (.j j) τ (hset H l (bX (.loop 3 pend d' tm ps asg body fn db nt))))
def xPan {d : Nat} (kx : Ex → QT d → Heap → Ans) (τ : QT d) (v : AV) (H : Heap) : Ans := kx (.pan v) τ H
def xRange (X : Cx) (fn : Nat) (g : QT X.d → AV) (ps : List Nat) (asg body : Code) (call : CallT) (τ : QT X.d) (H : Heap) (kn : QT X.d → Heap → Ans) (kx : Ex → QT X.d → Heap → Ans) : Ans :=
  tA ((gt X.d X.nt).f τ) 22 <| tA (g τ) 16 <|
  hnewK H (bX (.dfr true)) fun db H1 =>
  hnewK H1 (bX (.loop 0 none X.d τ ps asg body fn db X.nt)) fun l H2 =>
  (st X.d X.nt).f τ (vTup (vPtr db 0 :: ((gt X.d X.nt).f τ).l)) fun τ1 =>
  call (Nat.succ (g τ).a) (appL (g τ).l (vYld l :: (g τ).m)) H2 (rangeEnd l kn kx τ1) (xPan kx τ1)
def comp (X : Cx) (fn : Nat) : Code → Cl X.d
  | .skip | .label _ => ⟨xSkip⟩
  | .region _ ops draw => ⟨xRegion (cT draw (drawnR X ops.toList) (cT (nodupD ops.toList 0) (cOps X false ops.toList [] ops.toList) ⟨failR 219⟩)).run⟩
  | .seq a b => ⟨xSeq (comp X fn a).run (comp X fn b).run⟩
  | .cond c a b => ⟨xCond (cOpd X c) (comp X fn a).run (comp X fn b).run⟩
  | .block id c => ⟨xBlock id (comp X fn c).run⟩
  | .loop c => ⟨xLoop (comp X fn c).run⟩
  | .scope _ => ⟨xFail 240⟩
  | .exit id => ⟨xJump (.exit id)⟩
  | .goto _ => ⟨xFail 223⟩
  | .ret => ⟨xJump .ret⟩
  | .refuse _ => ⟨xFail 224⟩
  | .rangeFunc f ps asg body => ⟨cT (bA (Nat.beq X.pb 0) (Nat.beq X.ad 0)) (xRange X fn (cOpd X f) ps.toList asg body) (xFail 225)⟩
/-- the body of a function that is called as a deferred one, and may recover, in the regions of its outermost sequence: `info` is what recover may return -/
structure ClS (d : Nat) where
  run : CallT → QT d → AV → Heap → (QT d → AV → Heap → Ans) → (Ex → QT d → AV → Heap → Ans) → Ans
def isRec (o : Op) : Bool := match o with | .call c => (match c.callee with | .builtin .recover => true | _ => false) | _ => false
def hasRec (l : List Oper) : Bool := l.any fun o => isRec o.op
def rk0 {d : Nat} (call : CallT) : RK d := ⟨call, fun _ _ => .fail 245, fun _ _ _ => .fail 245⟩
def recS (k : AV → AV → Ans) (info : AV) : Ans := tA info 22 (match info.l with | [] => k info vNili | [v] => k (vTup [v, v]) v | _ => .fail 208)
def opsS (X : Cx) (ops : List Oper) (call : CallT) (kn : QT X.d → AV → Heap → Ans) : List Ad → List Oper → AV → QT X.d → Heap → Ans
  | _, [], info, τ, H => kn τ info H
  | env, o :: os, info, τ, H =>
    cA (envFree env o.dst) (cA (isRec o.op)
      (match o.guard with
       | some _ => .fail 243
       | none => recS (fun info' v => (putC X o.dst ⟨fun τ' H' _ => opsS X ops call kn env os info' τ' H'⟩).f τ (rk0 call) v H) info)
      (cA (isCtl o.op) (.fail 244)
        ((cOp X false ops (cCO X env o) o ⟨fun τ' H' _ => opsS X ops call kn (envOf (cCO X env o) env) os info τ' H'⟩).run τ H (rk0 call)))) (.fail 198)
def sPlain {d : Nat} (c : ClT d) (call : CallT) (τ : QT d) (info : AV) (H : Heap) (kn : QT d → AV → Heap → Ans) (kx : Ex → QT d → AV → Heap → Ans) : Ans :=
  c call τ H (fun τ H => kn τ info H) (fun e τ H => kx e τ info H)
def compS (X : Cx) (fn : Nat) : Code → ClS X.d
  | .seq a b => ⟨fun call τ info H kn kx => (compS X fn a).run call τ info H (fun τ' i H' => (compS X fn b).run call τ' i H' kn kx) kx⟩
  | .region id ops false => ⟨cT (hasRec ops.toList) (fun call τ info H kn _ => opsS X ops.toList call kn [] ops.toList info τ H) (sPlain (comp X fn (.region id ops false)).run)⟩
  | .cond c a b => ⟨fun call τ info H kn kx => cA (Nat.beq (cOpd X c τ).t 1) ((compS X fn a).run call τ info H kn kx) (tA (cOpd X c τ) 0 ((compS X fn b).run call τ info H kn kx))⟩
  | c => ⟨sPlain (comp X fn c).run⟩

/-! ## Functions -/
/-! which temporaries have a box of their own -/
def opdT : Operand → Nat
  | .tmp t => Nat.pow 2 t
  | _ => 0
structure PbS where
  cand : Nat
  bad : Nat
def oprs (xs : List Operand) : Nat := xs.foldl (fun m x => Nat.lor m (opdT x)) 0
/-- the roots of the addresses in a mask: those that are derived by fieldAddr in the region -/
def rootsM (ops : List Oper) (m : Nat) : Nat :=
  ops.foldl (fun r o => match o.op, o.dst with
    | .fieldAddr _ (.tmp u) _, some d => cT (Nat.testBit m d || Nat.testBit r d) (Nat.lor r (Nat.pow 2 u)) r
    | _, _ => r) m
def pbOp (s : PbS) (o : Oper) : PbS :=
  let used := match o.op with
    | .load _ _ | .fieldAddr _ _ _ => 0
    | .store _ _ v => opdT v
    | op => oprs op.operands.toList
  match o.op, o.dst with
  | .alloc _, some d | .box _ _, some d => ⟨Nat.lor s.cand (Nat.pow 2 d), Nat.lor (Nat.lor s.bad used) (cT (Nat.testBit s.cand d) (Nat.pow 2 d) 0)⟩
  | _, some d => ⟨s.cand, Nat.lor (Nat.lor s.bad used) (cT (Nat.testBit s.cand d) (Nat.pow 2 d) 0)⟩
  | _, none => ⟨s.cand, Nat.lor s.bad used⟩
/-- addresses that are used beyond their region: any temporary that a region reads as an address and does not derive itself spoils what it is derived from: told by the second walk -/
def pbReg (ops : List Oper) (s : PbS) : PbS :=
  let s1 := ops.foldl pbOp s
  ⟨s1.cand, rootsM ops (rootsM ops (rootsM ops s1.bad))⟩
def pbOf : Code → PbS → PbS
  | .region _ ops _, s => pbReg ops.toList s
  | .seq a b, s => pbOf b (pbOf a s)
  | .cond c a b, s => pbOf b (pbOf a ⟨s.cand, Nat.lor s.bad (opdT c)⟩)
  | .block _ c, s | .loop c, s | .scope c, s => pbOf c s
  | .rangeFunc _ _ _ _, s => ⟨0, Nat.sub (Nat.pow 2 600) 1⟩
  | _, s => s
def resTmps : List ResultVar → Nat
  | [] => 0
  | .tmp t :: rs => Nat.lor (Nat.pow 2 t) (resTmps rs)
  | .cell _ _ :: rs => resTmps rs
/-- the bits of a that b has not -/
def minusM (a b : Nat) : Nat := Nat.xor a (Nat.land a b)
def pbMask (fn : Func) (c : Code) : Nat := minusM (pbOf c ⟨0, resTmps fn.results.toList⟩).cand (pbOf c ⟨0, resTmps fn.results.toList⟩).bad
/-- the addresses derived from boxes of their own -/
def adOps (pb : Nat) (ops : List Oper) (m : Nat) : Nat :=
  ops.foldl (fun r o => match o.op, o.dst with
    | .fieldAddr _ (.tmp u) _, some d => cT (Nat.testBit pb u || Nat.testBit r u) (Nat.lor r (Nat.pow 2 d)) r
    | _, _ => r) m
def adOf (pb : Nat) : Code → Nat → Nat
  | .region _ ops _, m => adOps pb ops.toList m
  | .seq a b, m => adOf pb b (adOf pb a m)
  | .cond _ a b, m => adOf pb b (adOf pb a m)
  | .block _ c, m | .loop c, m | .scope c, m => adOf pb c m
  | _, m => m

def depthOf (n : Nat) : Nat := cT (Nat.ble n 8) 1 (cT (Nat.ble n 64) 2 3)
structure ResC (d : Nat) where
  f : QT d → Heap → (List AV → Ans) → Ans
structure FnC where
  nt : Nat
  d : Nat
  pb : Nat
  body : ClT d
  /-- its body as that of a deferred function -/
  bodyS : CallT → QT d → AV → Heap → (QT d → AV → Heap → Ans) → (Ex → QT d → AV → Heap → Ans) → Ans
  res : QT d → Heap → (List AV → Ans) → Ans
def consR (v : AV) (k : List AV → Ans) (vs : List AV) : Ans := k (v :: vs)
def resS1 {d : Nat} (τ : QT d) (H : Heap) (ih : QT d → Heap → (List AV → Ans) → Ans) (k : List AV → Ans) (v : AV) : Ans := okA v (ih τ H (consR v k))
def resS {d : Nat} (g : QT d → Heap → AV) (ih : QT d → Heap → (List AV → Ans) → Ans) (τ : QT d) (H : Heap) (k : List AV → Ans) : Ans := resS1 τ H ih k (g τ H)
def resFail {d : Nat} (_ : QT d) (_ : Heap) (_ : List AV → Ans) : Ans := .fail 225
def resZ {d : Nat} (_ : QT d) (_ : Heap) (k : List AV → Ans) : Ans := k []
def resV (X : Cx) : ResultVar → QT X.d → Heap → AV
  | .tmp t => u1 movH (cTmp X t)
  | .cell a t => cT (!tyOk X.P t) (u0 vX) <| cT (Nat.testBit X.pb a) (cT (Nat.ble (Nat.succ a) X.nt) (pld (aggT X.P t) (szOf X.P t) 0 (slot X a) 21 (slot X a)) (u0 vX))
      (r1 (cT (aggT X.P t) (loadN (szOf X.P t)) load1) (cTmp X a))
/-- the results, compiled -/
def resC (X : Cx) : List ResultVar → ResC X.d
  | [] => ⟨resZ⟩
  | r :: rs => ⟨resS (resV X r) (resC X rs).f⟩
def cxOf (P : Program) (ro : Nat) (fn : Func) (c : Code) : Cx := ⟨P, ro, fn.ntmps, depthOf (Nat.add fn.ntmps 2), pbMask fn c, adOf (pbMask fn c) c 0⟩
def cFn2 (X : Cx) (f : Nat) (fn : Func) (c : Code) : FnC := ⟨fn.ntmps, X.d, X.pb, (comp X f c).run, (compS X f c).run, (resC X fn.results.toList).f⟩
def cFn (P : Program) (ro : Nat) (f : Nat) : Option FnC :=
  match P.funcs[f]? with
  | none => none
  | some fn =>
    match fn.body with
    | none => none
    | some c => cT (Nat.ble fn.ntmps 500) (some (cFn2 (cxOf P ro fn c) f fn c)) none
def argS1 {d : Nat} (ih : Nat → QT d → (QT d → Ans) → Ans) (i : Nat) (k : QT d → Ans) (t : QT d) : Ans := ih (Nat.succ i) t k
def argS (d nt pb : Nat) (v : AV) (ih : Nat → QT d → (QT d → Ans) → Ans) (i : Nat) (t : QT d) (k : QT d → Ans) : Ans := cA (bA (Nat.ble (Nat.succ i) nt) (cT (Nat.beq v.t 21) (!Nat.testBit pb i) true)) ((st d i).f t v (argS1 ih i k)) (.fail 226)
def argZ (d : Nat) (_ : Nat) (t : QT d) (k : QT d → Ans) : Ans := k t
/-- the arguments into the temporaries from slot i on -/
def argsK (d nt pb : Nat) (vs : List AV) : Nat → QT d → (QT d → Ans) → Ans := List.rec (motive := fun _ => Nat → QT d → (QT d → Ans) → Ans) (argZ d) (fun v _ ih => argS d nt pb v ih) vs
def psetK (d nt : Nat) : List Nat → List AV → QT d → (QT d → Ans) → Ans
  | [], [], t, k => k t
  | p :: ps, v :: vs, t, k => cA (Nat.ble (Nat.succ p) nt) ((st d p).f t v fun t' => psetK d nt ps vs t' k) (.fail 227)
  | _, _, _, _ => .fail 228
def ret2 (kret : KR) (H : Heap) (vs : List AV) (v : AV) (r : List AV) : Ans := lA r (kret v H) (fun _ _ => kret (vTup vs) H)
def ret1 (kret : KR) (H : Heap) (vs : List AV) : Ans := lA vs (kret (vTup []) H) (ret2 kret H vs)
/-- a deferred function, run while its frame leaves: `info` is what recover may return; what it leaves of it -/
def defEnd (fd : FnC) (k : AV → Heap → Ans) (τ : QT fd.d) (info : AV) (H : Heap) : Ans :=
  tA ((gt fd.d fd.nt).f τ) 22 (lA ((gt fd.d fd.nt).f τ).l (fd.res τ H fun _ => k info H) (fun _ _ => .fail 229))
def defEx (fd : FnC) (k : AV → Heap → Ans) (e : Ex) (τ : QT fd.d) (info : AV) (H : Heap) : Ans := match e with | .j .ret => defEnd fd k τ info H | _ => .fail 230
def runDefK (fns : Nat → Option FnC) (call : CallT) (f : Nat) (args : List AV) (info : AV) (H : Heap) (k : AV → Heap → Ans) : Ans :=
  match fns f with
  | none => .fail 231
  | some fd => argsK fd.d fd.nt fd.pb args 0 (qFill fd.d) fun σ0 => fd.bodyS call σ0 info H (defEnd fd k) (defEx fd k)
/-- the end of a function: its deferred calls, then its results; m: a panic goes on -/
def leaveK (fns : Nat → Option FnC) (call : CallT) (fc : FnC) (kret kpan : KR) : List AV → Option AV → QT fc.d → Heap → Ans
  | [], none, τ, H => fc.res τ H (ret1 kret H)
  | [], some v, _, H => kpan v H
  | d :: ds, m, τ, H =>
    cA (Nat.beq d.t 3)
      (match axOf (hget H d.a) with
        | .dfr true => leaveK fns call fc kret kpan ds m τ (hset H d.a (bX (.dfr false)))
        | _ => .fail 232) <|
    tA d 16 (match m with
      | none => runDefK fns call d.a (appL d.l d.m) (vTup []) H fun _ H' => leaveK fns call fc kret kpan ds none τ H'
      | some v => runDefK fns call d.a (appL d.l d.m) (vTup [v]) H fun r H' => tA r 22 (match r.l with
        | [_, _] => leaveK fns call fc kret kpan ds none τ H'
        | _ => leaveK fns call fc kret kpan ds (some v) τ H'))
def fnRet (fns : Nat → Option FnC) (call : CallT) (fc : FnC) (kret kpan : KR) (τ : QT fc.d) (H : Heap) : Ans :=
  tA ((gt fc.d fc.nt).f τ) 22 (lA ((gt fc.d fc.nt).f τ).l (fc.res τ H (ret1 kret H)) (fun _ _ => leaveK fns call fc kret kpan ((gt fc.d fc.nt).f τ).l none τ H))
def fnEx (fns : Nat → Option FnC) (call : CallT) (fc : FnC) (kret kpan : KR) (e : Ex) (τ : QT fc.d) (H : Heap) : Ans :=
  match e with
  | .j .ret => fnRet fns call fc kret kpan τ H
  | .pan v => tA ((gt fc.d fc.nt).f τ) 22 (leaveK fns call fc kret kpan ((gt fc.d fc.nt).f τ).l (some v) τ H)
  | _ => .fail 233
def fn2 (fns : Nat → Option FnC) (call : CallT) (fc : FnC) (H : Heap) (kret kpan : KR) (τ : QT fc.d) : Ans :=
  fc.body call τ H (fnRet fns call fc kret kpan) (fnEx fns call fc kret kpan)
/-- a round of a range over a function -/
def rndEnd (P : Program) (ro : Nat) (l : Nat) (kret : KR) {d : Nat} (st : Nat) (pend : Option Jmp) (r : AV) (H : Heap) : Ans :=
  getLoopK H l fun _ _ d' tm ps asg body fn db nt => kret r (hset H l (bX (.loop st pend d' tm ps asg body fn db nt)))
def rndEx (P : Program) (ro : Nat) (l : Nat) (kret kpan : KR) {d : Nat} (e : Ex) (_ : QT d) (H : Heap) : Ans :=
  match e with
  | .j j => rndEnd P ro l kret (d := d) 2 (some j) vF H
  | .pan _ => .fail 234
def rndBody (P : Program) (ro : Nat) (call : CallT) (l : Nat) (kret kpan : KR) (d nt fn : Nat) (body : Code) (τ : QT d) (H : Heap) : Ans :=
  getLoopK H l fun st pend d' tm ps asg body' fn' db nt' =>
    cA (Nat.beq st 0) ((comp ⟨P, ro, nt, d, 0, 0⟩ fn body).run call τ (hset H l (bX (.loop 1 pend d' tm ps asg body' fn' db nt')))
      (fun _ H3 => rndEnd P ro l kret (d := d) 0 none vT H3) (rndEx P ro l kret kpan (d := d))) (.fail 235)
def yieldK (P : Program) (ro : Nat) (call : CallT) (l : Nat) (rest : List AV) (H : Heap) (kret kpan : KR) : Ans :=
  getLoopK H l fun _ _ d tm ps asg body fn _ nt =>
    psetK d nt ps rest tm fun τ0 => (st d nt).f τ0 vNils fun τ1 =>
    (comp ⟨P, ro, nt, d, 0, 0⟩ fn asg).run call τ1 H (rndBody P ro call l kret kpan d nt fn body) (fun _ _ _ => .fail 236)
/-- what a call that has been proved gives: a plain value, or a slice of a new array -/
inductive OrR where
  | flat (v : AV)
  | sl (o n c : Nat) (ab : AB)
/-- a call that has been proved -/
structure Orc where
  f : Nat
  args : List AV
  res : OrR
/-- all that has been proved: the functions, as a mask; what the globals hold; the calls -/
structure OrE where
  mask : Nat
  gs : List AB
  os : List Orc
def htEq : HT (List AV) → HT (List AV) → Bool
  | .e, .e => true
  | .n v a b c d, .n v' a' b' c' d' => bA (avEqs v v') (bA (htEq a a') (bA (htEq b b') (bA (htEq c c') (htEq d d'))))
  | _, _ => false
def abEq (x y : AB) : Bool := bA (Nat.beq x.t y.t) (bA (Nat.beq x.n y.n) (bA (Nat.beq x.s y.s) (bA (avEqs x.l y.l) (htEq x.e y.e))))
def gsOk : List AB → Nat → Heap → Bool
  | [], _, _ => true
  | g :: gs, i, H => bA (abEq (hget H i) g) (gsOk gs (Nat.succ i) H)
def orcGet (f : Nat) (args : List AV) : List Orc → Option Orc
  | [] => none
  | o :: os => cT (Nat.beq o.f f) (cT (avEqs o.args args) (some o) (orcGet f args os)) (orcGet f args os)
def orcRes (r : OrR) (H : Heap) (kret : KR) : Ans :=
  match r with
  | .flat v => kret v H
  | .sl o n c ab => hnewK H ab fun b H' => kret (vSl b o n c) H'
def orcRun (E : OrE) (r : OrR) (H : Heap) (kret : KR) : Ans := cA (gsOk E.gs 0 H) (orcRes r H kret) (.fail 242)
def fnCall (P : Program) (ro : Nat) (fns : Nat → Option FnC) (call : CallT) (f : Nat) (args : List AV) (H : Heap) (kret kpan : KR) : Ans :=
  match fns f with
  | none => .fail 237
  | some fc => argsK fc.d fc.nt fc.pb args 0 (qFill fc.d) (fn2 fns call fc H kret kpan)
def orcCall (P : Program) (ro : Nat) (E : OrE) (fns : Nat → Option FnC) (call : CallT) (f : Nat) (args : List AV) (H : Heap) (kret kpan : KR) : Ans :=
  match orcGet f args E.os with
  | some o => orcRun E o.res H kret
  | none => fnCall P ro fns call f args H kret kpan
def callF (P : Program) (ro : Nat) (E : OrE) (fns : Nat → Option FnC) (call : CallT) (f : Nat) (args : List AV) (H : Heap) (kret kpan : KR) : Ans :=
  match f with
  | 0 => lA args (.fail 238) fun y rest => tA y 17 (yieldK P ro call y.a rest H kret kpan)
  | f + 1 => cA (Nat.testBit E.mask f) (orcCall P ro E fns call f args H kret kpan) (fnCall P ro fns call f args H kret kpan)
def callZ (_ : Nat) (_ : List AV) (_ : Heap) (_ _ : KR) : Ans := .fail 239
def callN (P : Program) (ro : Nat) (E : OrE) (fns : Nat → Option FnC) (n : Nat) : CallT :=
  Nat.rec (motive := fun _ => CallT) callZ (fun _ ih => callF P ro E fns ih) n
/-- the heap with which a call begins: the globals alone -/
def gput : List AB → Nat → Heap → Heap
  | [], _, H => H
  | g :: gs, i, H => gput gs (Nat.succ i) (hset H i g)
def heapG (gs : List AB) : Heap := gput gs 0 (heap0 gs.length)
/-- the result is this -/
def kOrc (ro : Nat) (r : OrR) (u : AV) (H : Heap) : Ans :=
  match r with
  | .flat v => cA (avEq u v) .done (.fail 1)
  | .sl o n c ab => tA u 5 (cA (bA (Nat.ble ro u.a) (bA (Nat.beq u.b o) (bA (Nat.beq u.c n) (bA (Nat.beq u.d c) (abEq (hget H u.a) ab))))) .done (.fail 1))
def kNo (_ : AV) (_ : Heap) : Ans := .fail 2
/-- a call, run alone -/
def orcTry (P : Program) (E : OrE) (n : Nat) (o : Orc) : Ans := callN P E.gs.length E (cFn P E.gs.length) n (Nat.succ o.f) o.args (heapG E.gs) (kOrc E.gs.length o.res) kNo
/-! plain: no reference in it -/
mutual
def flatV : AV → Bool
  | ⟨t, _, _, _, _, l, _⟩ => cT (bA (Nat.ble t 15) (bA (!Nat.beq t 3) (bA (!Nat.beq t 5) (!Nat.beq t 7)))) true
    (cT (Nat.beq t 18) true (cT (Nat.beq t 20) true (cT (Nat.beq t 24) true (cT (bA (Nat.ble 19 t) (Nat.ble t 22)) (flatVs l) false))))
def flatVs : List AV → Bool
  | [] => true
  | v :: vs => bA (flatV v) (flatVs vs)
end
def flatT : HT (List AV) → Bool
  | .e => true
  | .n v a b c d => bA (flatVs v) (bA (flatT a) (bA (flatT b) (bA (flatT c) (flatT d))))
/-- a block of plain values -/
def flatB (ab : AB) : Bool := bA (bA (Nat.ble 1 ab.t) (Nat.ble ab.t 2)) (bA (flatVs ab.l) (flatT ab.e))
def flatR (r : OrR) : Bool :=
  match r with
  | .flat v => flatV v
  | .sl _ _ _ ab => flatB ab
end Go.Ev
end

/-! The evaluator, part 5: a long function, run in parts: between them its state, written out. -/
noncomputable section
set_option linter.unusedVariables false
namespace Go.Ev
/-- a state: how many blocks; some temporaries; some blocks -/
structure Snap where
  nx : Nat
  ts : List (Nat × AV)
  bs : List (Nat × AB)
def entEq : List Ent → List Ent → Bool
  | [], [] => true
  | x :: xs, y :: ys => bA (avEq x.k y.k) (bA (avEq x.v y.v) (bA (Nat.beq x.n y.n) (entEq xs ys)))
  | _, _ => false
def axEq : AX → AX → Bool
  | .map es c, .map es' c' => bA (Nat.beq c c') (entEq es es')
  | _, _ => false
def blkEq (x y : AB) : Bool := cT (Nat.ble y.t 2) (bA (Nat.ble 1 y.t) (abEq x y)) (bA (Nat.beq x.t 3) (bA (Nat.beq y.t 3) (axEq x.x y.x)))
def mT (d : Nat) : List (Nat × AV) → QT d → Bool
  | [], _ => true
  | (t, v) :: ts, τ => bA (avEq ((gt d t).f τ) v) (mT d ts τ)
def mB (ro : Nat) : List (Nat × AB) → Heap → Bool
  | [], _ => true
  | (b, ab) :: bs, H => bA (bA (Nat.ble ro b) (Nat.ble (Nat.succ b) H.nx)) (bA (blkEq (hget H b) ab) (mB ro bs H))
def matchS (ro d : Nat) (S : Snap) (τ : QT d) (H : Heap) : Bool := bA (bA (Nat.ble H.nx S.nx) (Nat.ble S.nx 65535)) (bA (mT d S.ts τ) (mB ro S.bs H))
def qVoid : (n : Nat) → QT n
  | 0 => vX
  | n + 1 => q8 (α := QT n) (qVoid n)
def snT (d nt : Nat) : List (Nat × AV) → QT d → (QT d → Ans) → Ans
  | [], τ, k => k τ
  | (t, v) :: ts, τ, k => cA (Nat.ble t (Nat.succ nt)) ((st d t).f τ v fun τ' => snT d nt ts τ' k) (.fail 251)
def snH : List (Nat × AB) → Heap → Heap
  | [], H => H
  | (b, ab) :: bs, H => snH bs (hset H b ab)
def snapH (gs : List AB) (S : Snap) : Heap := snH S.bs ⟨S.nx, (heapG gs).t⟩
/-- the first k parts of a sequence; then what comes next -/
def headRun (X : Cx) (fn : Nat) : Nat → Code → ClT X.d
  | 0, _ => fun _ τ H kn _ => kn τ H
  | k + 1, .seq a b => xSeq (comp X fn a).run (headRun X fn k b)
  | _ + 1, _ => xFail 252
def dropC : Nat → Code → Code
  | 0, c => c
  | k + 1, .seq _ b => dropC k b
  | _ + 1, c => c
def bodyOf (P : Program) (f : Nat) : Code := match P.funcs[f]? with | some fn => (match fn.body with | some c => c | none => .skip) | none => .skip
def funcOf (P : Program) (f : Nat) : Option Func := P.funcs[f]?
/-- the part from the k-th on, m parts of it, begun in S; what it must end in -/
def cFnX (P : Program) (ro f : Nat) (k : (X : Cx) → Func → Code → Ans) : Ans :=
  match P.funcs[f]? with
  | none => .fail 253
  | some fn => match fn.body with
    | none => .fail 253
    | some c => cT (Nat.ble fn.ntmps 500) (k (cxOf P ro fn c) fn c) (.fail 253)
def kSnap (ro : Nat) {d : Nat} (S : Snap) (τ : QT d) (H : Heap) : Ans := cA (matchS ro d S τ H) .done (.fail 254)
/-- from the start to snapshot S, k parts -/
def runFirst (P : Program) (E : OrE) (n f k : Nat) (S : Snap) (kret : KR) : Ans :=
  cFnX P E.gs.length f fun X fn c => headRun X f k c (callN P E.gs.length E (cFn P E.gs.length) n) (qFill X.d) (heapG E.gs) (kSnap E.gs.length S)
    (fnEx (cFn P E.gs.length) (callN P E.gs.length E (cFn P E.gs.length) n) (cFn2 X f fn c) kret kNo)
/-- from snapshot S at part k to snapshot S', m parts -/
def runMid (P : Program) (E : OrE) (n f k m : Nat) (S S' : Snap) (kret : KR) : Ans :=
  cFnX P E.gs.length f fun X fn c => snT X.d X.nt S.ts (qVoid X.d) fun τ => headRun X f m (dropC k c) (callN P E.gs.length E (cFn P E.gs.length) n) τ (snapH E.gs S) (kSnap E.gs.length S')
    (fnEx (cFn P E.gs.length) (callN P E.gs.length E (cFn P E.gs.length) n) (cFn2 X f fn c) kret kNo)
/-- from snapshot S at part k to the end -/
def runLast (P : Program) (E : OrE) (n f k : Nat) (S : Snap) (kret : KR) : Ans :=
  cFnX P E.gs.length f fun X fn c => snT X.d X.nt S.ts (qVoid X.d) fun τ => (comp X f (dropC k c)).run (callN P E.gs.length E (cFn P E.gs.length) n) τ (snapH E.gs S)
    (fnRet (cFn P E.gs.length) (callN P E.gs.length E (cFn P E.gs.length) n) (cFn2 X f fn c) kret kNo) (fnEx (cFn P E.gs.length) (callN P E.gs.length E (cFn P E.gs.length) n) (cFn2 X f fn c) kret kNo)
def doneB (x : Ans) : Bool := Ans.rec (motive := fun _ => Bool) (fun _ => false) true x
def kTrue (v : AV) (_ : Heap) : Ans := tA v 1 .done
theorem doneB_done {x : Ans} (h : doneB x = true) : x = .done := by
  cases x with
  | fail w => cases h
  | done => rfl
end Go.Ev
end
