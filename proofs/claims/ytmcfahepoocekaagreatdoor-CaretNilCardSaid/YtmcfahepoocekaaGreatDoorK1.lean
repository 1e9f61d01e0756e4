/-
  An abstract machine for closed calls, and that it is sound (part 1 of 6): what it answers, the function answers. No condition.
-/
import GoSem.Step
import GoSem.Claims
namespace Go.AbsK
open Go
set_option linter.unusedVariables false
set_option maxRecDepth 4000
noncomputable section

inductive D16 where
  | d0
  | d1
  | d2
  | d3
  | d4
  | d5
  | d6
  | d7
  | d8
  | d9
  | d10
  | d11
  | d12
  | d13
  | d14
  | d15
def dig (n : Nat) : D16 := match n % 16 with
  | 0 => .d0
  | 1 => .d1
  | 2 => .d2
  | 3 => .d3
  | 4 => .d4
  | 5 => .d5
  | 6 => .d6
  | 7 => .d7
  | 8 => .d8
  | 9 => .d9
  | 10 => .d10
  | 11 => .d11
  | 12 => .d12
  | 13 => .d13
  | 14 => .d14
  | _ => .d15

inductive AV where
  | int (k : IntKind) (n : Int)
  | bool (b : Bool)
  | ptr (b i j : Nat)
  | sl (b i l c : Nat) (o : Bool)
  | str (s : List Nat)
  | nil
  | cons (h t : AV)
  | agg (l : AV)
  | oth (g a b c d e f : Nat) (x y : AV)
instance : Inhabited AV := ⟨.nil⟩
abbrev o0 (g : Nat) : AV := .oth g 0 0 0 0 0 0 .nil .nil
abbrev undef : AV := o0 10          -- a tuple of none
abbrev vNilp : AV := o0 0
abbrev vNils : AV := o0 1
abbrev vNilm : AV := o0 2
abbrev vNilf : AV := o0 3
abbrev vNili : AV := o0 4
abbrev vMap (b : Nat) : AV := .oth 5 b 0 0 0 0 0 .nil .nil
abbrev vFn (f : Nat) (x y : AV) : AV := .oth 6 f 0 0 0 0 0 x y
abbrev vYl (l : Nat) : AV := .oth 7 l 0 0 0 0 0 .nil .nil
abbrev vIface (t : Nat) (x : AV) : AV := .oth 8 t 0 0 0 0 0 x .nil
abbrev vTup (l : AV) : AV := .oth 10 0 0 0 0 0 0 l .nil
abbrev vSlz (b i0 i1 k clip : Nat) : AV := .oth 11 b i0 i1 k clip 0 .nil .nil
abbrev vSla (b i j z l c : Nat) : AV := .oth 12 b i j z l c .nil .nil

inductive V16 where | mk (a0 a1 a2 a3 a4 a5 a6 a7 a8 a9 a10 a11 a12 a13 a14 a15 : AV)
def V16.g0 : V16 → AV := @V16.rec (fun _ => AV) (fun a0 _ _ _ _ _ _ _ _ _ _ _ _ _ _ _ => a0)
def V16.s0 : (AV → AV) → V16 → V16 := fun q => @V16.rec (fun _ => V16) (fun a0 a1 a2 a3 a4 a5 a6 a7 a8 a9 a10 a11 a12 a13 a14 a15 => .mk (q a0) a1 a2 a3 a4 a5 a6 a7 a8 a9 a10 a11 a12 a13 a14 a15)
def V16.g1 : V16 → AV := @V16.rec (fun _ => AV) (fun _ a1 _ _ _ _ _ _ _ _ _ _ _ _ _ _ => a1)
def V16.s1 : (AV → AV) → V16 → V16 := fun q => @V16.rec (fun _ => V16) (fun a0 a1 a2 a3 a4 a5 a6 a7 a8 a9 a10 a11 a12 a13 a14 a15 => .mk a0 (q a1) a2 a3 a4 a5 a6 a7 a8 a9 a10 a11 a12 a13 a14 a15)
def V16.g2 : V16 → AV := @V16.rec (fun _ => AV) (fun _ _ a2 _ _ _ _ _ _ _ _ _ _ _ _ _ => a2)
def V16.s2 : (AV → AV) → V16 → V16 := fun q => @V16.rec (fun _ => V16) (fun a0 a1 a2 a3 a4 a5 a6 a7 a8 a9 a10 a11 a12 a13 a14 a15 => .mk a0 a1 (q a2) a3 a4 a5 a6 a7 a8 a9 a10 a11 a12 a13 a14 a15)
def V16.g3 : V16 → AV := @V16.rec (fun _ => AV) (fun _ _ _ a3 _ _ _ _ _ _ _ _ _ _ _ _ => a3)
def V16.s3 : (AV → AV) → V16 → V16 := fun q => @V16.rec (fun _ => V16) (fun a0 a1 a2 a3 a4 a5 a6 a7 a8 a9 a10 a11 a12 a13 a14 a15 => .mk a0 a1 a2 (q a3) a4 a5 a6 a7 a8 a9 a10 a11 a12 a13 a14 a15)
def V16.g4 : V16 → AV := @V16.rec (fun _ => AV) (fun _ _ _ _ a4 _ _ _ _ _ _ _ _ _ _ _ => a4)
def V16.s4 : (AV → AV) → V16 → V16 := fun q => @V16.rec (fun _ => V16) (fun a0 a1 a2 a3 a4 a5 a6 a7 a8 a9 a10 a11 a12 a13 a14 a15 => .mk a0 a1 a2 a3 (q a4) a5 a6 a7 a8 a9 a10 a11 a12 a13 a14 a15)
def V16.g5 : V16 → AV := @V16.rec (fun _ => AV) (fun _ _ _ _ _ a5 _ _ _ _ _ _ _ _ _ _ => a5)
def V16.s5 : (AV → AV) → V16 → V16 := fun q => @V16.rec (fun _ => V16) (fun a0 a1 a2 a3 a4 a5 a6 a7 a8 a9 a10 a11 a12 a13 a14 a15 => .mk a0 a1 a2 a3 a4 (q a5) a6 a7 a8 a9 a10 a11 a12 a13 a14 a15)
def V16.g6 : V16 → AV := @V16.rec (fun _ => AV) (fun _ _ _ _ _ _ a6 _ _ _ _ _ _ _ _ _ => a6)
def V16.s6 : (AV → AV) → V16 → V16 := fun q => @V16.rec (fun _ => V16) (fun a0 a1 a2 a3 a4 a5 a6 a7 a8 a9 a10 a11 a12 a13 a14 a15 => .mk a0 a1 a2 a3 a4 a5 (q a6) a7 a8 a9 a10 a11 a12 a13 a14 a15)
def V16.g7 : V16 → AV := @V16.rec (fun _ => AV) (fun _ _ _ _ _ _ _ a7 _ _ _ _ _ _ _ _ => a7)
def V16.s7 : (AV → AV) → V16 → V16 := fun q => @V16.rec (fun _ => V16) (fun a0 a1 a2 a3 a4 a5 a6 a7 a8 a9 a10 a11 a12 a13 a14 a15 => .mk a0 a1 a2 a3 a4 a5 a6 (q a7) a8 a9 a10 a11 a12 a13 a14 a15)
def V16.g8 : V16 → AV := @V16.rec (fun _ => AV) (fun _ _ _ _ _ _ _ _ a8 _ _ _ _ _ _ _ => a8)
def V16.s8 : (AV → AV) → V16 → V16 := fun q => @V16.rec (fun _ => V16) (fun a0 a1 a2 a3 a4 a5 a6 a7 a8 a9 a10 a11 a12 a13 a14 a15 => .mk a0 a1 a2 a3 a4 a5 a6 a7 (q a8) a9 a10 a11 a12 a13 a14 a15)
def V16.g9 : V16 → AV := @V16.rec (fun _ => AV) (fun _ _ _ _ _ _ _ _ _ a9 _ _ _ _ _ _ => a9)
def V16.s9 : (AV → AV) → V16 → V16 := fun q => @V16.rec (fun _ => V16) (fun a0 a1 a2 a3 a4 a5 a6 a7 a8 a9 a10 a11 a12 a13 a14 a15 => .mk a0 a1 a2 a3 a4 a5 a6 a7 a8 (q a9) a10 a11 a12 a13 a14 a15)
def V16.g10 : V16 → AV := @V16.rec (fun _ => AV) (fun _ _ _ _ _ _ _ _ _ _ a10 _ _ _ _ _ => a10)
def V16.s10 : (AV → AV) → V16 → V16 := fun q => @V16.rec (fun _ => V16) (fun a0 a1 a2 a3 a4 a5 a6 a7 a8 a9 a10 a11 a12 a13 a14 a15 => .mk a0 a1 a2 a3 a4 a5 a6 a7 a8 a9 (q a10) a11 a12 a13 a14 a15)
def V16.g11 : V16 → AV := @V16.rec (fun _ => AV) (fun _ _ _ _ _ _ _ _ _ _ _ a11 _ _ _ _ => a11)
def V16.s11 : (AV → AV) → V16 → V16 := fun q => @V16.rec (fun _ => V16) (fun a0 a1 a2 a3 a4 a5 a6 a7 a8 a9 a10 a11 a12 a13 a14 a15 => .mk a0 a1 a2 a3 a4 a5 a6 a7 a8 a9 a10 (q a11) a12 a13 a14 a15)
def V16.g12 : V16 → AV := @V16.rec (fun _ => AV) (fun _ _ _ _ _ _ _ _ _ _ _ _ a12 _ _ _ => a12)
def V16.s12 : (AV → AV) → V16 → V16 := fun q => @V16.rec (fun _ => V16) (fun a0 a1 a2 a3 a4 a5 a6 a7 a8 a9 a10 a11 a12 a13 a14 a15 => .mk a0 a1 a2 a3 a4 a5 a6 a7 a8 a9 a10 a11 (q a12) a13 a14 a15)
def V16.g13 : V16 → AV := @V16.rec (fun _ => AV) (fun _ _ _ _ _ _ _ _ _ _ _ _ _ a13 _ _ => a13)
def V16.s13 : (AV → AV) → V16 → V16 := fun q => @V16.rec (fun _ => V16) (fun a0 a1 a2 a3 a4 a5 a6 a7 a8 a9 a10 a11 a12 a13 a14 a15 => .mk a0 a1 a2 a3 a4 a5 a6 a7 a8 a9 a10 a11 a12 (q a13) a14 a15)
def V16.g14 : V16 → AV := @V16.rec (fun _ => AV) (fun _ _ _ _ _ _ _ _ _ _ _ _ _ _ a14 _ => a14)
def V16.s14 : (AV → AV) → V16 → V16 := fun q => @V16.rec (fun _ => V16) (fun a0 a1 a2 a3 a4 a5 a6 a7 a8 a9 a10 a11 a12 a13 a14 a15 => .mk a0 a1 a2 a3 a4 a5 a6 a7 a8 a9 a10 a11 a12 a13 (q a14) a15)
def V16.g15 : V16 → AV := @V16.rec (fun _ => AV) (fun _ _ _ _ _ _ _ _ _ _ _ _ _ _ _ a15 => a15)
def V16.s15 : (AV → AV) → V16 → V16 := fun q => @V16.rec (fun _ => V16) (fun a0 a1 a2 a3 a4 a5 a6 a7 a8 a9 a10 a11 a12 a13 a14 a15 => .mk a0 a1 a2 a3 a4 a5 a6 a7 a8 a9 a10 a11 a12 a13 a14 (q a15))
def V16.get : D16 → V16 → AV := @D16.rec (fun _ => V16 → AV) V16.g0 V16.g1 V16.g2 V16.g3 V16.g4 V16.g5 V16.g6 V16.g7 V16.g8 V16.g9 V16.g10 V16.g11 V16.g12 V16.g13 V16.g14 V16.g15
def V16.upd : D16 → (AV → AV) → V16 → V16 := @D16.rec (fun _ => (AV → AV) → V16 → V16) V16.s0 V16.s1 V16.s2 V16.s3 V16.s4 V16.s5 V16.s6 V16.s7 V16.s8 V16.s9 V16.s10 V16.s11 V16.s12 V16.s13 V16.s14 V16.s15
inductive E16 where | mk (b0 b1 b2 b3 b4 b5 b6 b7 b8 b9 b10 b11 b12 b13 b14 b15 : V16)
def E16.g0 : E16 → V16 := @E16.rec (fun _ => V16) (fun b0 _ _ _ _ _ _ _ _ _ _ _ _ _ _ _ => b0)
def E16.s0 : (V16 → V16) → E16 → E16 := fun q => @E16.rec (fun _ => E16) (fun b0 b1 b2 b3 b4 b5 b6 b7 b8 b9 b10 b11 b12 b13 b14 b15 => .mk (q b0) b1 b2 b3 b4 b5 b6 b7 b8 b9 b10 b11 b12 b13 b14 b15)
def E16.g1 : E16 → V16 := @E16.rec (fun _ => V16) (fun _ b1 _ _ _ _ _ _ _ _ _ _ _ _ _ _ => b1)
def E16.s1 : (V16 → V16) → E16 → E16 := fun q => @E16.rec (fun _ => E16) (fun b0 b1 b2 b3 b4 b5 b6 b7 b8 b9 b10 b11 b12 b13 b14 b15 => .mk b0 (q b1) b2 b3 b4 b5 b6 b7 b8 b9 b10 b11 b12 b13 b14 b15)
def E16.g2 : E16 → V16 := @E16.rec (fun _ => V16) (fun _ _ b2 _ _ _ _ _ _ _ _ _ _ _ _ _ => b2)
def E16.s2 : (V16 → V16) → E16 → E16 := fun q => @E16.rec (fun _ => E16) (fun b0 b1 b2 b3 b4 b5 b6 b7 b8 b9 b10 b11 b12 b13 b14 b15 => .mk b0 b1 (q b2) b3 b4 b5 b6 b7 b8 b9 b10 b11 b12 b13 b14 b15)
def E16.g3 : E16 → V16 := @E16.rec (fun _ => V16) (fun _ _ _ b3 _ _ _ _ _ _ _ _ _ _ _ _ => b3)
def E16.s3 : (V16 → V16) → E16 → E16 := fun q => @E16.rec (fun _ => E16) (fun b0 b1 b2 b3 b4 b5 b6 b7 b8 b9 b10 b11 b12 b13 b14 b15 => .mk b0 b1 b2 (q b3) b4 b5 b6 b7 b8 b9 b10 b11 b12 b13 b14 b15)
def E16.g4 : E16 → V16 := @E16.rec (fun _ => V16) (fun _ _ _ _ b4 _ _ _ _ _ _ _ _ _ _ _ => b4)
def E16.s4 : (V16 → V16) → E16 → E16 := fun q => @E16.rec (fun _ => E16) (fun b0 b1 b2 b3 b4 b5 b6 b7 b8 b9 b10 b11 b12 b13 b14 b15 => .mk b0 b1 b2 b3 (q b4) b5 b6 b7 b8 b9 b10 b11 b12 b13 b14 b15)
def E16.g5 : E16 → V16 := @E16.rec (fun _ => V16) (fun _ _ _ _ _ b5 _ _ _ _ _ _ _ _ _ _ => b5)
def E16.s5 : (V16 → V16) → E16 → E16 := fun q => @E16.rec (fun _ => E16) (fun b0 b1 b2 b3 b4 b5 b6 b7 b8 b9 b10 b11 b12 b13 b14 b15 => .mk b0 b1 b2 b3 b4 (q b5) b6 b7 b8 b9 b10 b11 b12 b13 b14 b15)
def E16.g6 : E16 → V16 := @E16.rec (fun _ => V16) (fun _ _ _ _ _ _ b6 _ _ _ _ _ _ _ _ _ => b6)
def E16.s6 : (V16 → V16) → E16 → E16 := fun q => @E16.rec (fun _ => E16) (fun b0 b1 b2 b3 b4 b5 b6 b7 b8 b9 b10 b11 b12 b13 b14 b15 => .mk b0 b1 b2 b3 b4 b5 (q b6) b7 b8 b9 b10 b11 b12 b13 b14 b15)
def E16.g7 : E16 → V16 := @E16.rec (fun _ => V16) (fun _ _ _ _ _ _ _ b7 _ _ _ _ _ _ _ _ => b7)
def E16.s7 : (V16 → V16) → E16 → E16 := fun q => @E16.rec (fun _ => E16) (fun b0 b1 b2 b3 b4 b5 b6 b7 b8 b9 b10 b11 b12 b13 b14 b15 => .mk b0 b1 b2 b3 b4 b5 b6 (q b7) b8 b9 b10 b11 b12 b13 b14 b15)
def E16.g8 : E16 → V16 := @E16.rec (fun _ => V16) (fun _ _ _ _ _ _ _ _ b8 _ _ _ _ _ _ _ => b8)
def E16.s8 : (V16 → V16) → E16 → E16 := fun q => @E16.rec (fun _ => E16) (fun b0 b1 b2 b3 b4 b5 b6 b7 b8 b9 b10 b11 b12 b13 b14 b15 => .mk b0 b1 b2 b3 b4 b5 b6 b7 (q b8) b9 b10 b11 b12 b13 b14 b15)
def E16.g9 : E16 → V16 := @E16.rec (fun _ => V16) (fun _ _ _ _ _ _ _ _ _ b9 _ _ _ _ _ _ => b9)
def E16.s9 : (V16 → V16) → E16 → E16 := fun q => @E16.rec (fun _ => E16) (fun b0 b1 b2 b3 b4 b5 b6 b7 b8 b9 b10 b11 b12 b13 b14 b15 => .mk b0 b1 b2 b3 b4 b5 b6 b7 b8 (q b9) b10 b11 b12 b13 b14 b15)
def E16.g10 : E16 → V16 := @E16.rec (fun _ => V16) (fun _ _ _ _ _ _ _ _ _ _ b10 _ _ _ _ _ => b10)
def E16.s10 : (V16 → V16) → E16 → E16 := fun q => @E16.rec (fun _ => E16) (fun b0 b1 b2 b3 b4 b5 b6 b7 b8 b9 b10 b11 b12 b13 b14 b15 => .mk b0 b1 b2 b3 b4 b5 b6 b7 b8 b9 (q b10) b11 b12 b13 b14 b15)
def E16.g11 : E16 → V16 := @E16.rec (fun _ => V16) (fun _ _ _ _ _ _ _ _ _ _ _ b11 _ _ _ _ => b11)
def E16.s11 : (V16 → V16) → E16 → E16 := fun q => @E16.rec (fun _ => E16) (fun b0 b1 b2 b3 b4 b5 b6 b7 b8 b9 b10 b11 b12 b13 b14 b15 => .mk b0 b1 b2 b3 b4 b5 b6 b7 b8 b9 b10 (q b11) b12 b13 b14 b15)
def E16.g12 : E16 → V16 := @E16.rec (fun _ => V16) (fun _ _ _ _ _ _ _ _ _ _ _ _ b12 _ _ _ => b12)
def E16.s12 : (V16 → V16) → E16 → E16 := fun q => @E16.rec (fun _ => E16) (fun b0 b1 b2 b3 b4 b5 b6 b7 b8 b9 b10 b11 b12 b13 b14 b15 => .mk b0 b1 b2 b3 b4 b5 b6 b7 b8 b9 b10 b11 (q b12) b13 b14 b15)
def E16.g13 : E16 → V16 := @E16.rec (fun _ => V16) (fun _ _ _ _ _ _ _ _ _ _ _ _ _ b13 _ _ => b13)
def E16.s13 : (V16 → V16) → E16 → E16 := fun q => @E16.rec (fun _ => E16) (fun b0 b1 b2 b3 b4 b5 b6 b7 b8 b9 b10 b11 b12 b13 b14 b15 => .mk b0 b1 b2 b3 b4 b5 b6 b7 b8 b9 b10 b11 b12 (q b13) b14 b15)
def E16.g14 : E16 → V16 := @E16.rec (fun _ => V16) (fun _ _ _ _ _ _ _ _ _ _ _ _ _ _ b14 _ => b14)
def E16.s14 : (V16 → V16) → E16 → E16 := fun q => @E16.rec (fun _ => E16) (fun b0 b1 b2 b3 b4 b5 b6 b7 b8 b9 b10 b11 b12 b13 b14 b15 => .mk b0 b1 b2 b3 b4 b5 b6 b7 b8 b9 b10 b11 b12 b13 (q b14) b15)
def E16.g15 : E16 → V16 := @E16.rec (fun _ => V16) (fun _ _ _ _ _ _ _ _ _ _ _ _ _ _ _ b15 => b15)
def E16.s15 : (V16 → V16) → E16 → E16 := fun q => @E16.rec (fun _ => E16) (fun b0 b1 b2 b3 b4 b5 b6 b7 b8 b9 b10 b11 b12 b13 b14 b15 => .mk b0 b1 b2 b3 b4 b5 b6 b7 b8 b9 b10 b11 b12 b13 b14 (q b15))
def E16.get : D16 → E16 → V16 := @D16.rec (fun _ => E16 → V16) E16.g0 E16.g1 E16.g2 E16.g3 E16.g4 E16.g5 E16.g6 E16.g7 E16.g8 E16.g9 E16.g10 E16.g11 E16.g12 E16.g13 E16.g14 E16.g15
def E16.upd : D16 → (V16 → V16) → E16 → E16 := @D16.rec (fun _ => (V16 → V16) → E16 → E16) E16.s0 E16.s1 E16.s2 E16.s3 E16.s4 E16.s5 E16.s6 E16.s7 E16.s8 E16.s9 E16.s10 E16.s11 E16.s12 E16.s13 E16.s14 E16.s15
def v0 : V16 := .mk undef undef undef undef undef undef undef undef undef undef undef undef undef undef undef undef
def e0 : E16 := .mk v0 v0 v0 v0 v0 v0 v0 v0 v0 v0 v0 v0 v0 v0 v0 v0

inductive Loc where | nil | cons (v : AV) (t : Loc)
def Loc.hd : Loc → AV := @Loc.rec (fun _ => AV) .nil (fun v _ _ => v)
def Loc.tl : Loc → Loc := @Loc.rec (fun _ => Loc) .nil (fun _ t _ => t)

/-- arrays' elements -/
inductive Path where | e | l (p : Path) | r (p : Path)
def pathF : Nat → Nat → Path
  | 0, _ => .e
  | f + 1, n => if Nat.beq n 0 then .e else if Nat.beq (n % 2) 1 then .l (pathF f (n / 2)) else .r (pathF f (n / 2 - 1))
def pathOf (n : Nat) : Path := pathF n n
inductive Env where | nil | node (l : Env) (v : AV) (r : Env)
def Env.v : Env → AV := @Env.rec (fun _ => AV) .nil (fun _ v _ _ _ => v)
def Env.l : Env → Env := @Env.rec (fun _ => Env) .nil (fun l _ _ _ _ => l)
def Env.r : Env → Env := @Env.rec (fun _ => Env) .nil (fun _ _ r _ _ => r)
def getE : Path → Env → AV := @Path.rec (fun _ => Env → AV) (fun t => t.v) (fun _ ih t => ih t.l) (fun _ ih t => ih t.r)
def setE : Path → AV → Env → Env := @Path.rec (fun _ => AV → Env → Env)
  (fun x => @Env.rec (fun _ => Env) (.node .nil x .nil) (fun l _ r _ _ => .node l x r))
  (fun _ ih x => @Env.rec (fun _ => Env) (.node (ih x .nil) .nil .nil) (fun l v r _ _ => .node (ih x l) v r))
  (fun _ ih x => @Env.rec (fun _ => Env) (.node .nil .nil (ih x .nil)) (fun l v r _ _ => .node l v (ih x r)))

inductive Kd where | ex | ro | opn (own sh : Bool) (fam ver : Nat)
inductive DL where | nil | mark (r : Nat) (t : DL) | call (fv args : AV) (t : DL)
inductive ML where | nil | cons (k v : AV) (born : Nat) (t : ML)

inductive AObj where
  | dead
  | var (elem sz : Nat) (cs : AV)
  | cells (elem sz n : Nat) (els : Env) (kd : Kd)
  | map (es : ML) (clock : Nat)
  | loop (st : Nat) (pending : Option Code) (fn : Nat) (env : E16) (params : List Nat) (assign body : Code) (defers : Nat)
  | defd (ds : Option DL)
  | mapIter (m : Option Nat) (since : Nat) (seen : List Nat) (stepped : Nat)
  | strIter (s : List Nat) (pos : Nat)
inductive H1 where | mk (a0 a1 a2 a3 a4 a5 a6 a7 a8 a9 a10 a11 a12 a13 a14 a15 : AObj)
def H1.g0 : H1 → AObj := @H1.rec (fun _ => AObj) (fun a0 _ _ _ _ _ _ _ _ _ _ _ _ _ _ _ => a0)
def H1.s0 : (AObj → AObj) → H1 → H1 := fun q => @H1.rec (fun _ => H1) (fun a0 a1 a2 a3 a4 a5 a6 a7 a8 a9 a10 a11 a12 a13 a14 a15 => .mk (q a0) a1 a2 a3 a4 a5 a6 a7 a8 a9 a10 a11 a12 a13 a14 a15)
def H1.g1 : H1 → AObj := @H1.rec (fun _ => AObj) (fun _ a1 _ _ _ _ _ _ _ _ _ _ _ _ _ _ => a1)
def H1.s1 : (AObj → AObj) → H1 → H1 := fun q => @H1.rec (fun _ => H1) (fun a0 a1 a2 a3 a4 a5 a6 a7 a8 a9 a10 a11 a12 a13 a14 a15 => .mk a0 (q a1) a2 a3 a4 a5 a6 a7 a8 a9 a10 a11 a12 a13 a14 a15)
def H1.g2 : H1 → AObj := @H1.rec (fun _ => AObj) (fun _ _ a2 _ _ _ _ _ _ _ _ _ _ _ _ _ => a2)
def H1.s2 : (AObj → AObj) → H1 → H1 := fun q => @H1.rec (fun _ => H1) (fun a0 a1 a2 a3 a4 a5 a6 a7 a8 a9 a10 a11 a12 a13 a14 a15 => .mk a0 a1 (q a2) a3 a4 a5 a6 a7 a8 a9 a10 a11 a12 a13 a14 a15)
def H1.g3 : H1 → AObj := @H1.rec (fun _ => AObj) (fun _ _ _ a3 _ _ _ _ _ _ _ _ _ _ _ _ => a3)
def H1.s3 : (AObj → AObj) → H1 → H1 := fun q => @H1.rec (fun _ => H1) (fun a0 a1 a2 a3 a4 a5 a6 a7 a8 a9 a10 a11 a12 a13 a14 a15 => .mk a0 a1 a2 (q a3) a4 a5 a6 a7 a8 a9 a10 a11 a12 a13 a14 a15)
def H1.g4 : H1 → AObj := @H1.rec (fun _ => AObj) (fun _ _ _ _ a4 _ _ _ _ _ _ _ _ _ _ _ => a4)
def H1.s4 : (AObj → AObj) → H1 → H1 := fun q => @H1.rec (fun _ => H1) (fun a0 a1 a2 a3 a4 a5 a6 a7 a8 a9 a10 a11 a12 a13 a14 a15 => .mk a0 a1 a2 a3 (q a4) a5 a6 a7 a8 a9 a10 a11 a12 a13 a14 a15)
def H1.g5 : H1 → AObj := @H1.rec (fun _ => AObj) (fun _ _ _ _ _ a5 _ _ _ _ _ _ _ _ _ _ => a5)
def H1.s5 : (AObj → AObj) → H1 → H1 := fun q => @H1.rec (fun _ => H1) (fun a0 a1 a2 a3 a4 a5 a6 a7 a8 a9 a10 a11 a12 a13 a14 a15 => .mk a0 a1 a2 a3 a4 (q a5) a6 a7 a8 a9 a10 a11 a12 a13 a14 a15)
def H1.g6 : H1 → AObj := @H1.rec (fun _ => AObj) (fun _ _ _ _ _ _ a6 _ _ _ _ _ _ _ _ _ => a6)
def H1.s6 : (AObj → AObj) → H1 → H1 := fun q => @H1.rec (fun _ => H1) (fun a0 a1 a2 a3 a4 a5 a6 a7 a8 a9 a10 a11 a12 a13 a14 a15 => .mk a0 a1 a2 a3 a4 a5 (q a6) a7 a8 a9 a10 a11 a12 a13 a14 a15)
def H1.g7 : H1 → AObj := @H1.rec (fun _ => AObj) (fun _ _ _ _ _ _ _ a7 _ _ _ _ _ _ _ _ => a7)
def H1.s7 : (AObj → AObj) → H1 → H1 := fun q => @H1.rec (fun _ => H1) (fun a0 a1 a2 a3 a4 a5 a6 a7 a8 a9 a10 a11 a12 a13 a14 a15 => .mk a0 a1 a2 a3 a4 a5 a6 (q a7) a8 a9 a10 a11 a12 a13 a14 a15)
def H1.g8 : H1 → AObj := @H1.rec (fun _ => AObj) (fun _ _ _ _ _ _ _ _ a8 _ _ _ _ _ _ _ => a8)
def H1.s8 : (AObj → AObj) → H1 → H1 := fun q => @H1.rec (fun _ => H1) (fun a0 a1 a2 a3 a4 a5 a6 a7 a8 a9 a10 a11 a12 a13 a14 a15 => .mk a0 a1 a2 a3 a4 a5 a6 a7 (q a8) a9 a10 a11 a12 a13 a14 a15)
def H1.g9 : H1 → AObj := @H1.rec (fun _ => AObj) (fun _ _ _ _ _ _ _ _ _ a9 _ _ _ _ _ _ => a9)
def H1.s9 : (AObj → AObj) → H1 → H1 := fun q => @H1.rec (fun _ => H1) (fun a0 a1 a2 a3 a4 a5 a6 a7 a8 a9 a10 a11 a12 a13 a14 a15 => .mk a0 a1 a2 a3 a4 a5 a6 a7 a8 (q a9) a10 a11 a12 a13 a14 a15)
def H1.g10 : H1 → AObj := @H1.rec (fun _ => AObj) (fun _ _ _ _ _ _ _ _ _ _ a10 _ _ _ _ _ => a10)
def H1.s10 : (AObj → AObj) → H1 → H1 := fun q => @H1.rec (fun _ => H1) (fun a0 a1 a2 a3 a4 a5 a6 a7 a8 a9 a10 a11 a12 a13 a14 a15 => .mk a0 a1 a2 a3 a4 a5 a6 a7 a8 a9 (q a10) a11 a12 a13 a14 a15)
def H1.g11 : H1 → AObj := @H1.rec (fun _ => AObj) (fun _ _ _ _ _ _ _ _ _ _ _ a11 _ _ _ _ => a11)
def H1.s11 : (AObj → AObj) → H1 → H1 := fun q => @H1.rec (fun _ => H1) (fun a0 a1 a2 a3 a4 a5 a6 a7 a8 a9 a10 a11 a12 a13 a14 a15 => .mk a0 a1 a2 a3 a4 a5 a6 a7 a8 a9 a10 (q a11) a12 a13 a14 a15)
def H1.g12 : H1 → AObj := @H1.rec (fun _ => AObj) (fun _ _ _ _ _ _ _ _ _ _ _ _ a12 _ _ _ => a12)
def H1.s12 : (AObj → AObj) → H1 → H1 := fun q => @H1.rec (fun _ => H1) (fun a0 a1 a2 a3 a4 a5 a6 a7 a8 a9 a10 a11 a12 a13 a14 a15 => .mk a0 a1 a2 a3 a4 a5 a6 a7 a8 a9 a10 a11 (q a12) a13 a14 a15)
def H1.g13 : H1 → AObj := @H1.rec (fun _ => AObj) (fun _ _ _ _ _ _ _ _ _ _ _ _ _ a13 _ _ => a13)
def H1.s13 : (AObj → AObj) → H1 → H1 := fun q => @H1.rec (fun _ => H1) (fun a0 a1 a2 a3 a4 a5 a6 a7 a8 a9 a10 a11 a12 a13 a14 a15 => .mk a0 a1 a2 a3 a4 a5 a6 a7 a8 a9 a10 a11 a12 (q a13) a14 a15)
def H1.g14 : H1 → AObj := @H1.rec (fun _ => AObj) (fun _ _ _ _ _ _ _ _ _ _ _ _ _ _ a14 _ => a14)
def H1.s14 : (AObj → AObj) → H1 → H1 := fun q => @H1.rec (fun _ => H1) (fun a0 a1 a2 a3 a4 a5 a6 a7 a8 a9 a10 a11 a12 a13 a14 a15 => .mk a0 a1 a2 a3 a4 a5 a6 a7 a8 a9 a10 a11 a12 a13 (q a14) a15)
def H1.g15 : H1 → AObj := @H1.rec (fun _ => AObj) (fun _ _ _ _ _ _ _ _ _ _ _ _ _ _ _ a15 => a15)
def H1.s15 : (AObj → AObj) → H1 → H1 := fun q => @H1.rec (fun _ => H1) (fun a0 a1 a2 a3 a4 a5 a6 a7 a8 a9 a10 a11 a12 a13 a14 a15 => .mk a0 a1 a2 a3 a4 a5 a6 a7 a8 a9 a10 a11 a12 a13 a14 (q a15))
def H1.get : D16 → H1 → AObj := @D16.rec (fun _ => H1 → AObj) H1.g0 H1.g1 H1.g2 H1.g3 H1.g4 H1.g5 H1.g6 H1.g7 H1.g8 H1.g9 H1.g10 H1.g11 H1.g12 H1.g13 H1.g14 H1.g15
def H1.upd : D16 → (AObj → AObj) → H1 → H1 := @D16.rec (fun _ => (AObj → AObj) → H1 → H1) H1.s0 H1.s1 H1.s2 H1.s3 H1.s4 H1.s5 H1.s6 H1.s7 H1.s8 H1.s9 H1.s10 H1.s11 H1.s12 H1.s13 H1.s14 H1.s15
inductive H2 where | mk (b0 b1 b2 b3 b4 b5 b6 b7 b8 b9 b10 b11 b12 b13 b14 b15 : H1)
def H2.g0 : H2 → H1 := @H2.rec (fun _ => H1) (fun b0 _ _ _ _ _ _ _ _ _ _ _ _ _ _ _ => b0)
def H2.s0 : (H1 → H1) → H2 → H2 := fun q => @H2.rec (fun _ => H2) (fun b0 b1 b2 b3 b4 b5 b6 b7 b8 b9 b10 b11 b12 b13 b14 b15 => .mk (q b0) b1 b2 b3 b4 b5 b6 b7 b8 b9 b10 b11 b12 b13 b14 b15)
def H2.g1 : H2 → H1 := @H2.rec (fun _ => H1) (fun _ b1 _ _ _ _ _ _ _ _ _ _ _ _ _ _ => b1)
def H2.s1 : (H1 → H1) → H2 → H2 := fun q => @H2.rec (fun _ => H2) (fun b0 b1 b2 b3 b4 b5 b6 b7 b8 b9 b10 b11 b12 b13 b14 b15 => .mk b0 (q b1) b2 b3 b4 b5 b6 b7 b8 b9 b10 b11 b12 b13 b14 b15)
def H2.g2 : H2 → H1 := @H2.rec (fun _ => H1) (fun _ _ b2 _ _ _ _ _ _ _ _ _ _ _ _ _ => b2)
def H2.s2 : (H1 → H1) → H2 → H2 := fun q => @H2.rec (fun _ => H2) (fun b0 b1 b2 b3 b4 b5 b6 b7 b8 b9 b10 b11 b12 b13 b14 b15 => .mk b0 b1 (q b2) b3 b4 b5 b6 b7 b8 b9 b10 b11 b12 b13 b14 b15)
def H2.g3 : H2 → H1 := @H2.rec (fun _ => H1) (fun _ _ _ b3 _ _ _ _ _ _ _ _ _ _ _ _ => b3)
def H2.s3 : (H1 → H1) → H2 → H2 := fun q => @H2.rec (fun _ => H2) (fun b0 b1 b2 b3 b4 b5 b6 b7 b8 b9 b10 b11 b12 b13 b14 b15 => .mk b0 b1 b2 (q b3) b4 b5 b6 b7 b8 b9 b10 b11 b12 b13 b14 b15)
def H2.g4 : H2 → H1 := @H2.rec (fun _ => H1) (fun _ _ _ _ b4 _ _ _ _ _ _ _ _ _ _ _ => b4)
def H2.s4 : (H1 → H1) → H2 → H2 := fun q => @H2.rec (fun _ => H2) (fun b0 b1 b2 b3 b4 b5 b6 b7 b8 b9 b10 b11 b12 b13 b14 b15 => .mk b0 b1 b2 b3 (q b4) b5 b6 b7 b8 b9 b10 b11 b12 b13 b14 b15)
def H2.g5 : H2 → H1 := @H2.rec (fun _ => H1) (fun _ _ _ _ _ b5 _ _ _ _ _ _ _ _ _ _ => b5)
def H2.s5 : (H1 → H1) → H2 → H2 := fun q => @H2.rec (fun _ => H2) (fun b0 b1 b2 b3 b4 b5 b6 b7 b8 b9 b10 b11 b12 b13 b14 b15 => .mk b0 b1 b2 b3 b4 (q b5) b6 b7 b8 b9 b10 b11 b12 b13 b14 b15)
def H2.g6 : H2 → H1 := @H2.rec (fun _ => H1) (fun _ _ _ _ _ _ b6 _ _ _ _ _ _ _ _ _ => b6)
def H2.s6 : (H1 → H1) → H2 → H2 := fun q => @H2.rec (fun _ => H2) (fun b0 b1 b2 b3 b4 b5 b6 b7 b8 b9 b10 b11 b12 b13 b14 b15 => .mk b0 b1 b2 b3 b4 b5 (q b6) b7 b8 b9 b10 b11 b12 b13 b14 b15)
def H2.g7 : H2 → H1 := @H2.rec (fun _ => H1) (fun _ _ _ _ _ _ _ b7 _ _ _ _ _ _ _ _ => b7)
def H2.s7 : (H1 → H1) → H2 → H2 := fun q => @H2.rec (fun _ => H2) (fun b0 b1 b2 b3 b4 b5 b6 b7 b8 b9 b10 b11 b12 b13 b14 b15 => .mk b0 b1 b2 b3 b4 b5 b6 (q b7) b8 b9 b10 b11 b12 b13 b14 b15)
def H2.g8 : H2 → H1 := @H2.rec (fun _ => H1) (fun _ _ _ _ _ _ _ _ b8 _ _ _ _ _ _ _ => b8)
def H2.s8 : (H1 → H1) → H2 → H2 := fun q => @H2.rec (fun _ => H2) (fun b0 b1 b2 b3 b4 b5 b6 b7 b8 b9 b10 b11 b12 b13 b14 b15 => .mk b0 b1 b2 b3 b4 b5 b6 b7 (q b8) b9 b10 b11 b12 b13 b14 b15)
def H2.g9 : H2 → H1 := @H2.rec (fun _ => H1) (fun _ _ _ _ _ _ _ _ _ b9 _ _ _ _ _ _ => b9)
def H2.s9 : (H1 → H1) → H2 → H2 := fun q => @H2.rec (fun _ => H2) (fun b0 b1 b2 b3 b4 b5 b6 b7 b8 b9 b10 b11 b12 b13 b14 b15 => .mk b0 b1 b2 b3 b4 b5 b6 b7 b8 (q b9) b10 b11 b12 b13 b14 b15)
def H2.g10 : H2 → H1 := @H2.rec (fun _ => H1) (fun _ _ _ _ _ _ _ _ _ _ b10 _ _ _ _ _ => b10)
def H2.s10 : (H1 → H1) → H2 → H2 := fun q => @H2.rec (fun _ => H2) (fun b0 b1 b2 b3 b4 b5 b6 b7 b8 b9 b10 b11 b12 b13 b14 b15 => .mk b0 b1 b2 b3 b4 b5 b6 b7 b8 b9 (q b10) b11 b12 b13 b14 b15)
def H2.g11 : H2 → H1 := @H2.rec (fun _ => H1) (fun _ _ _ _ _ _ _ _ _ _ _ b11 _ _ _ _ => b11)
def H2.s11 : (H1 → H1) → H2 → H2 := fun q => @H2.rec (fun _ => H2) (fun b0 b1 b2 b3 b4 b5 b6 b7 b8 b9 b10 b11 b12 b13 b14 b15 => .mk b0 b1 b2 b3 b4 b5 b6 b7 b8 b9 b10 (q b11) b12 b13 b14 b15)
def H2.g12 : H2 → H1 := @H2.rec (fun _ => H1) (fun _ _ _ _ _ _ _ _ _ _ _ _ b12 _ _ _ => b12)
def H2.s12 : (H1 → H1) → H2 → H2 := fun q => @H2.rec (fun _ => H2) (fun b0 b1 b2 b3 b4 b5 b6 b7 b8 b9 b10 b11 b12 b13 b14 b15 => .mk b0 b1 b2 b3 b4 b5 b6 b7 b8 b9 b10 b11 (q b12) b13 b14 b15)
def H2.g13 : H2 → H1 := @H2.rec (fun _ => H1) (fun _ _ _ _ _ _ _ _ _ _ _ _ _ b13 _ _ => b13)
def H2.s13 : (H1 → H1) → H2 → H2 := fun q => @H2.rec (fun _ => H2) (fun b0 b1 b2 b3 b4 b5 b6 b7 b8 b9 b10 b11 b12 b13 b14 b15 => .mk b0 b1 b2 b3 b4 b5 b6 b7 b8 b9 b10 b11 b12 (q b13) b14 b15)
def H2.g14 : H2 → H1 := @H2.rec (fun _ => H1) (fun _ _ _ _ _ _ _ _ _ _ _ _ _ _ b14 _ => b14)
def H2.s14 : (H1 → H1) → H2 → H2 := fun q => @H2.rec (fun _ => H2) (fun b0 b1 b2 b3 b4 b5 b6 b7 b8 b9 b10 b11 b12 b13 b14 b15 => .mk b0 b1 b2 b3 b4 b5 b6 b7 b8 b9 b10 b11 b12 b13 (q b14) b15)
def H2.g15 : H2 → H1 := @H2.rec (fun _ => H1) (fun _ _ _ _ _ _ _ _ _ _ _ _ _ _ _ b15 => b15)
def H2.s15 : (H1 → H1) → H2 → H2 := fun q => @H2.rec (fun _ => H2) (fun b0 b1 b2 b3 b4 b5 b6 b7 b8 b9 b10 b11 b12 b13 b14 b15 => .mk b0 b1 b2 b3 b4 b5 b6 b7 b8 b9 b10 b11 b12 b13 b14 (q b15))
def H2.get : D16 → H2 → H1 := @D16.rec (fun _ => H2 → H1) H2.g0 H2.g1 H2.g2 H2.g3 H2.g4 H2.g5 H2.g6 H2.g7 H2.g8 H2.g9 H2.g10 H2.g11 H2.g12 H2.g13 H2.g14 H2.g15
def H2.upd : D16 → (H1 → H1) → H2 → H2 := @D16.rec (fun _ => (H1 → H1) → H2 → H2) H2.s0 H2.s1 H2.s2 H2.s3 H2.s4 H2.s5 H2.s6 H2.s7 H2.s8 H2.s9 H2.s10 H2.s11 H2.s12 H2.s13 H2.s14 H2.s15
inductive H3 where | mk (c0 c1 c2 c3 c4 c5 c6 c7 c8 c9 c10 c11 c12 c13 c14 c15 : H2)
def H3.g0 : H3 → H2 := @H3.rec (fun _ => H2) (fun c0 _ _ _ _ _ _ _ _ _ _ _ _ _ _ _ => c0)
def H3.s0 : (H2 → H2) → H3 → H3 := fun q => @H3.rec (fun _ => H3) (fun c0 c1 c2 c3 c4 c5 c6 c7 c8 c9 c10 c11 c12 c13 c14 c15 => .mk (q c0) c1 c2 c3 c4 c5 c6 c7 c8 c9 c10 c11 c12 c13 c14 c15)
def H3.g1 : H3 → H2 := @H3.rec (fun _ => H2) (fun _ c1 _ _ _ _ _ _ _ _ _ _ _ _ _ _ => c1)
def H3.s1 : (H2 → H2) → H3 → H3 := fun q => @H3.rec (fun _ => H3) (fun c0 c1 c2 c3 c4 c5 c6 c7 c8 c9 c10 c11 c12 c13 c14 c15 => .mk c0 (q c1) c2 c3 c4 c5 c6 c7 c8 c9 c10 c11 c12 c13 c14 c15)
def H3.g2 : H3 → H2 := @H3.rec (fun _ => H2) (fun _ _ c2 _ _ _ _ _ _ _ _ _ _ _ _ _ => c2)
def H3.s2 : (H2 → H2) → H3 → H3 := fun q => @H3.rec (fun _ => H3) (fun c0 c1 c2 c3 c4 c5 c6 c7 c8 c9 c10 c11 c12 c13 c14 c15 => .mk c0 c1 (q c2) c3 c4 c5 c6 c7 c8 c9 c10 c11 c12 c13 c14 c15)
def H3.g3 : H3 → H2 := @H3.rec (fun _ => H2) (fun _ _ _ c3 _ _ _ _ _ _ _ _ _ _ _ _ => c3)
def H3.s3 : (H2 → H2) → H3 → H3 := fun q => @H3.rec (fun _ => H3) (fun c0 c1 c2 c3 c4 c5 c6 c7 c8 c9 c10 c11 c12 c13 c14 c15 => .mk c0 c1 c2 (q c3) c4 c5 c6 c7 c8 c9 c10 c11 c12 c13 c14 c15)
def H3.g4 : H3 → H2 := @H3.rec (fun _ => H2) (fun _ _ _ _ c4 _ _ _ _ _ _ _ _ _ _ _ => c4)
def H3.s4 : (H2 → H2) → H3 → H3 := fun q => @H3.rec (fun _ => H3) (fun c0 c1 c2 c3 c4 c5 c6 c7 c8 c9 c10 c11 c12 c13 c14 c15 => .mk c0 c1 c2 c3 (q c4) c5 c6 c7 c8 c9 c10 c11 c12 c13 c14 c15)
def H3.g5 : H3 → H2 := @H3.rec (fun _ => H2) (fun _ _ _ _ _ c5 _ _ _ _ _ _ _ _ _ _ => c5)
def H3.s5 : (H2 → H2) → H3 → H3 := fun q => @H3.rec (fun _ => H3) (fun c0 c1 c2 c3 c4 c5 c6 c7 c8 c9 c10 c11 c12 c13 c14 c15 => .mk c0 c1 c2 c3 c4 (q c5) c6 c7 c8 c9 c10 c11 c12 c13 c14 c15)
def H3.g6 : H3 → H2 := @H3.rec (fun _ => H2) (fun _ _ _ _ _ _ c6 _ _ _ _ _ _ _ _ _ => c6)
def H3.s6 : (H2 → H2) → H3 → H3 := fun q => @H3.rec (fun _ => H3) (fun c0 c1 c2 c3 c4 c5 c6 c7 c8 c9 c10 c11 c12 c13 c14 c15 => .mk c0 c1 c2 c3 c4 c5 (q c6) c7 c8 c9 c10 c11 c12 c13 c14 c15)
def H3.g7 : H3 → H2 := @H3.rec (fun _ => H2) (fun _ _ _ _ _ _ _ c7 _ _ _ _ _ _ _ _ => c7)
def H3.s7 : (H2 → H2) → H3 → H3 := fun q => @H3.rec (fun _ => H3) (fun c0 c1 c2 c3 c4 c5 c6 c7 c8 c9 c10 c11 c12 c13 c14 c15 => .mk c0 c1 c2 c3 c4 c5 c6 (q c7) c8 c9 c10 c11 c12 c13 c14 c15)
def H3.g8 : H3 → H2 := @H3.rec (fun _ => H2) (fun _ _ _ _ _ _ _ _ c8 _ _ _ _ _ _ _ => c8)
def H3.s8 : (H2 → H2) → H3 → H3 := fun q => @H3.rec (fun _ => H3) (fun c0 c1 c2 c3 c4 c5 c6 c7 c8 c9 c10 c11 c12 c13 c14 c15 => .mk c0 c1 c2 c3 c4 c5 c6 c7 (q c8) c9 c10 c11 c12 c13 c14 c15)
def H3.g9 : H3 → H2 := @H3.rec (fun _ => H2) (fun _ _ _ _ _ _ _ _ _ c9 _ _ _ _ _ _ => c9)
def H3.s9 : (H2 → H2) → H3 → H3 := fun q => @H3.rec (fun _ => H3) (fun c0 c1 c2 c3 c4 c5 c6 c7 c8 c9 c10 c11 c12 c13 c14 c15 => .mk c0 c1 c2 c3 c4 c5 c6 c7 c8 (q c9) c10 c11 c12 c13 c14 c15)
def H3.g10 : H3 → H2 := @H3.rec (fun _ => H2) (fun _ _ _ _ _ _ _ _ _ _ c10 _ _ _ _ _ => c10)
def H3.s10 : (H2 → H2) → H3 → H3 := fun q => @H3.rec (fun _ => H3) (fun c0 c1 c2 c3 c4 c5 c6 c7 c8 c9 c10 c11 c12 c13 c14 c15 => .mk c0 c1 c2 c3 c4 c5 c6 c7 c8 c9 (q c10) c11 c12 c13 c14 c15)
def H3.g11 : H3 → H2 := @H3.rec (fun _ => H2) (fun _ _ _ _ _ _ _ _ _ _ _ c11 _ _ _ _ => c11)
def H3.s11 : (H2 → H2) → H3 → H3 := fun q => @H3.rec (fun _ => H3) (fun c0 c1 c2 c3 c4 c5 c6 c7 c8 c9 c10 c11 c12 c13 c14 c15 => .mk c0 c1 c2 c3 c4 c5 c6 c7 c8 c9 c10 (q c11) c12 c13 c14 c15)
def H3.g12 : H3 → H2 := @H3.rec (fun _ => H2) (fun _ _ _ _ _ _ _ _ _ _ _ _ c12 _ _ _ => c12)
def H3.s12 : (H2 → H2) → H3 → H3 := fun q => @H3.rec (fun _ => H3) (fun c0 c1 c2 c3 c4 c5 c6 c7 c8 c9 c10 c11 c12 c13 c14 c15 => .mk c0 c1 c2 c3 c4 c5 c6 c7 c8 c9 c10 c11 (q c12) c13 c14 c15)
def H3.g13 : H3 → H2 := @H3.rec (fun _ => H2) (fun _ _ _ _ _ _ _ _ _ _ _ _ _ c13 _ _ => c13)
def H3.s13 : (H2 → H2) → H3 → H3 := fun q => @H3.rec (fun _ => H3) (fun c0 c1 c2 c3 c4 c5 c6 c7 c8 c9 c10 c11 c12 c13 c14 c15 => .mk c0 c1 c2 c3 c4 c5 c6 c7 c8 c9 c10 c11 c12 (q c13) c14 c15)
def H3.g14 : H3 → H2 := @H3.rec (fun _ => H2) (fun _ _ _ _ _ _ _ _ _ _ _ _ _ _ c14 _ => c14)
def H3.s14 : (H2 → H2) → H3 → H3 := fun q => @H3.rec (fun _ => H3) (fun c0 c1 c2 c3 c4 c5 c6 c7 c8 c9 c10 c11 c12 c13 c14 c15 => .mk c0 c1 c2 c3 c4 c5 c6 c7 c8 c9 c10 c11 c12 c13 (q c14) c15)
def H3.g15 : H3 → H2 := @H3.rec (fun _ => H2) (fun _ _ _ _ _ _ _ _ _ _ _ _ _ _ _ c15 => c15)
def H3.s15 : (H2 → H2) → H3 → H3 := fun q => @H3.rec (fun _ => H3) (fun c0 c1 c2 c3 c4 c5 c6 c7 c8 c9 c10 c11 c12 c13 c14 c15 => .mk c0 c1 c2 c3 c4 c5 c6 c7 c8 c9 c10 c11 c12 c13 c14 (q c15))
def H3.get : D16 → H3 → H2 := @D16.rec (fun _ => H3 → H2) H3.g0 H3.g1 H3.g2 H3.g3 H3.g4 H3.g5 H3.g6 H3.g7 H3.g8 H3.g9 H3.g10 H3.g11 H3.g12 H3.g13 H3.g14 H3.g15
def H3.upd : D16 → (H2 → H2) → H3 → H3 := @D16.rec (fun _ => (H2 → H2) → H3 → H3) H3.s0 H3.s1 H3.s2 H3.s3 H3.s4 H3.s5 H3.s6 H3.s7 H3.s8 H3.s9 H3.s10 H3.s11 H3.s12 H3.s13 H3.s14 H3.s15
inductive H4 where | mk (f0 f1 f2 f3 f4 f5 f6 f7 f8 f9 f10 f11 f12 f13 f14 f15 : H3)
def H4.g0 : H4 → H3 := @H4.rec (fun _ => H3) (fun f0 _ _ _ _ _ _ _ _ _ _ _ _ _ _ _ => f0)
def H4.s0 : (H3 → H3) → H4 → H4 := fun q => @H4.rec (fun _ => H4) (fun f0 f1 f2 f3 f4 f5 f6 f7 f8 f9 f10 f11 f12 f13 f14 f15 => .mk (q f0) f1 f2 f3 f4 f5 f6 f7 f8 f9 f10 f11 f12 f13 f14 f15)
def H4.g1 : H4 → H3 := @H4.rec (fun _ => H3) (fun _ f1 _ _ _ _ _ _ _ _ _ _ _ _ _ _ => f1)
def H4.s1 : (H3 → H3) → H4 → H4 := fun q => @H4.rec (fun _ => H4) (fun f0 f1 f2 f3 f4 f5 f6 f7 f8 f9 f10 f11 f12 f13 f14 f15 => .mk f0 (q f1) f2 f3 f4 f5 f6 f7 f8 f9 f10 f11 f12 f13 f14 f15)
def H4.g2 : H4 → H3 := @H4.rec (fun _ => H3) (fun _ _ f2 _ _ _ _ _ _ _ _ _ _ _ _ _ => f2)
def H4.s2 : (H3 → H3) → H4 → H4 := fun q => @H4.rec (fun _ => H4) (fun f0 f1 f2 f3 f4 f5 f6 f7 f8 f9 f10 f11 f12 f13 f14 f15 => .mk f0 f1 (q f2) f3 f4 f5 f6 f7 f8 f9 f10 f11 f12 f13 f14 f15)
def H4.g3 : H4 → H3 := @H4.rec (fun _ => H3) (fun _ _ _ f3 _ _ _ _ _ _ _ _ _ _ _ _ => f3)
def H4.s3 : (H3 → H3) → H4 → H4 := fun q => @H4.rec (fun _ => H4) (fun f0 f1 f2 f3 f4 f5 f6 f7 f8 f9 f10 f11 f12 f13 f14 f15 => .mk f0 f1 f2 (q f3) f4 f5 f6 f7 f8 f9 f10 f11 f12 f13 f14 f15)
def H4.g4 : H4 → H3 := @H4.rec (fun _ => H3) (fun _ _ _ _ f4 _ _ _ _ _ _ _ _ _ _ _ => f4)
def H4.s4 : (H3 → H3) → H4 → H4 := fun q => @H4.rec (fun _ => H4) (fun f0 f1 f2 f3 f4 f5 f6 f7 f8 f9 f10 f11 f12 f13 f14 f15 => .mk f0 f1 f2 f3 (q f4) f5 f6 f7 f8 f9 f10 f11 f12 f13 f14 f15)
def H4.g5 : H4 → H3 := @H4.rec (fun _ => H3) (fun _ _ _ _ _ f5 _ _ _ _ _ _ _ _ _ _ => f5)
def H4.s5 : (H3 → H3) → H4 → H4 := fun q => @H4.rec (fun _ => H4) (fun f0 f1 f2 f3 f4 f5 f6 f7 f8 f9 f10 f11 f12 f13 f14 f15 => .mk f0 f1 f2 f3 f4 (q f5) f6 f7 f8 f9 f10 f11 f12 f13 f14 f15)
def H4.g6 : H4 → H3 := @H4.rec (fun _ => H3) (fun _ _ _ _ _ _ f6 _ _ _ _ _ _ _ _ _ => f6)
def H4.s6 : (H3 → H3) → H4 → H4 := fun q => @H4.rec (fun _ => H4) (fun f0 f1 f2 f3 f4 f5 f6 f7 f8 f9 f10 f11 f12 f13 f14 f15 => .mk f0 f1 f2 f3 f4 f5 (q f6) f7 f8 f9 f10 f11 f12 f13 f14 f15)
def H4.g7 : H4 → H3 := @H4.rec (fun _ => H3) (fun _ _ _ _ _ _ _ f7 _ _ _ _ _ _ _ _ => f7)
def H4.s7 : (H3 → H3) → H4 → H4 := fun q => @H4.rec (fun _ => H4) (fun f0 f1 f2 f3 f4 f5 f6 f7 f8 f9 f10 f11 f12 f13 f14 f15 => .mk f0 f1 f2 f3 f4 f5 f6 (q f7) f8 f9 f10 f11 f12 f13 f14 f15)
def H4.g8 : H4 → H3 := @H4.rec (fun _ => H3) (fun _ _ _ _ _ _ _ _ f8 _ _ _ _ _ _ _ => f8)
def H4.s8 : (H3 → H3) → H4 → H4 := fun q => @H4.rec (fun _ => H4) (fun f0 f1 f2 f3 f4 f5 f6 f7 f8 f9 f10 f11 f12 f13 f14 f15 => .mk f0 f1 f2 f3 f4 f5 f6 f7 (q f8) f9 f10 f11 f12 f13 f14 f15)
def H4.g9 : H4 → H3 := @H4.rec (fun _ => H3) (fun _ _ _ _ _ _ _ _ _ f9 _ _ _ _ _ _ => f9)
def H4.s9 : (H3 → H3) → H4 → H4 := fun q => @H4.rec (fun _ => H4) (fun f0 f1 f2 f3 f4 f5 f6 f7 f8 f9 f10 f11 f12 f13 f14 f15 => .mk f0 f1 f2 f3 f4 f5 f6 f7 f8 (q f9) f10 f11 f12 f13 f14 f15)
def H4.g10 : H4 → H3 := @H4.rec (fun _ => H3) (fun _ _ _ _ _ _ _ _ _ _ f10 _ _ _ _ _ => f10)
def H4.s10 : (H3 → H3) → H4 → H4 := fun q => @H4.rec (fun _ => H4) (fun f0 f1 f2 f3 f4 f5 f6 f7 f8 f9 f10 f11 f12 f13 f14 f15 => .mk f0 f1 f2 f3 f4 f5 f6 f7 f8 f9 (q f10) f11 f12 f13 f14 f15)
def H4.g11 : H4 → H3 := @H4.rec (fun _ => H3) (fun _ _ _ _ _ _ _ _ _ _ _ f11 _ _ _ _ => f11)
def H4.s11 : (H3 → H3) → H4 → H4 := fun q => @H4.rec (fun _ => H4) (fun f0 f1 f2 f3 f4 f5 f6 f7 f8 f9 f10 f11 f12 f13 f14 f15 => .mk f0 f1 f2 f3 f4 f5 f6 f7 f8 f9 f10 (q f11) f12 f13 f14 f15)
def H4.g12 : H4 → H3 := @H4.rec (fun _ => H3) (fun _ _ _ _ _ _ _ _ _ _ _ _ f12 _ _ _ => f12)
def H4.s12 : (H3 → H3) → H4 → H4 := fun q => @H4.rec (fun _ => H4) (fun f0 f1 f2 f3 f4 f5 f6 f7 f8 f9 f10 f11 f12 f13 f14 f15 => .mk f0 f1 f2 f3 f4 f5 f6 f7 f8 f9 f10 f11 (q f12) f13 f14 f15)
def H4.g13 : H4 → H3 := @H4.rec (fun _ => H3) (fun _ _ _ _ _ _ _ _ _ _ _ _ _ f13 _ _ => f13)
def H4.s13 : (H3 → H3) → H4 → H4 := fun q => @H4.rec (fun _ => H4) (fun f0 f1 f2 f3 f4 f5 f6 f7 f8 f9 f10 f11 f12 f13 f14 f15 => .mk f0 f1 f2 f3 f4 f5 f6 f7 f8 f9 f10 f11 f12 (q f13) f14 f15)
def H4.g14 : H4 → H3 := @H4.rec (fun _ => H3) (fun _ _ _ _ _ _ _ _ _ _ _ _ _ _ f14 _ => f14)
def H4.s14 : (H3 → H3) → H4 → H4 := fun q => @H4.rec (fun _ => H4) (fun f0 f1 f2 f3 f4 f5 f6 f7 f8 f9 f10 f11 f12 f13 f14 f15 => .mk f0 f1 f2 f3 f4 f5 f6 f7 f8 f9 f10 f11 f12 f13 (q f14) f15)
def H4.g15 : H4 → H3 := @H4.rec (fun _ => H3) (fun _ _ _ _ _ _ _ _ _ _ _ _ _ _ _ f15 => f15)
def H4.s15 : (H3 → H3) → H4 → H4 := fun q => @H4.rec (fun _ => H4) (fun f0 f1 f2 f3 f4 f5 f6 f7 f8 f9 f10 f11 f12 f13 f14 f15 => .mk f0 f1 f2 f3 f4 f5 f6 f7 f8 f9 f10 f11 f12 f13 f14 (q f15))
def H4.get : D16 → H4 → H3 := @D16.rec (fun _ => H4 → H3) H4.g0 H4.g1 H4.g2 H4.g3 H4.g4 H4.g5 H4.g6 H4.g7 H4.g8 H4.g9 H4.g10 H4.g11 H4.g12 H4.g13 H4.g14 H4.g15
def H4.upd : D16 → (H3 → H3) → H4 → H4 := @D16.rec (fun _ => (H3 → H3) → H4 → H4) H4.s0 H4.s1 H4.s2 H4.s3 H4.s4 H4.s5 H4.s6 H4.s7 H4.s8 H4.s9 H4.s10 H4.s11 H4.s12 H4.s13 H4.s14 H4.s15
inductive H5 where | mk (g0 g1 g2 g3 g4 g5 g6 g7 g8 g9 g10 g11 g12 g13 g14 g15 : H4)
def H5.g0 : H5 → H4 := @H5.rec (fun _ => H4) (fun g0 _ _ _ _ _ _ _ _ _ _ _ _ _ _ _ => g0)
def H5.s0 : (H4 → H4) → H5 → H5 := fun q => @H5.rec (fun _ => H5) (fun g0 g1 g2 g3 g4 g5 g6 g7 g8 g9 g10 g11 g12 g13 g14 g15 => .mk (q g0) g1 g2 g3 g4 g5 g6 g7 g8 g9 g10 g11 g12 g13 g14 g15)
def H5.g1 : H5 → H4 := @H5.rec (fun _ => H4) (fun _ g1 _ _ _ _ _ _ _ _ _ _ _ _ _ _ => g1)
def H5.s1 : (H4 → H4) → H5 → H5 := fun q => @H5.rec (fun _ => H5) (fun g0 g1 g2 g3 g4 g5 g6 g7 g8 g9 g10 g11 g12 g13 g14 g15 => .mk g0 (q g1) g2 g3 g4 g5 g6 g7 g8 g9 g10 g11 g12 g13 g14 g15)
def H5.g2 : H5 → H4 := @H5.rec (fun _ => H4) (fun _ _ g2 _ _ _ _ _ _ _ _ _ _ _ _ _ => g2)
def H5.s2 : (H4 → H4) → H5 → H5 := fun q => @H5.rec (fun _ => H5) (fun g0 g1 g2 g3 g4 g5 g6 g7 g8 g9 g10 g11 g12 g13 g14 g15 => .mk g0 g1 (q g2) g3 g4 g5 g6 g7 g8 g9 g10 g11 g12 g13 g14 g15)
def H5.g3 : H5 → H4 := @H5.rec (fun _ => H4) (fun _ _ _ g3 _ _ _ _ _ _ _ _ _ _ _ _ => g3)
def H5.s3 : (H4 → H4) → H5 → H5 := fun q => @H5.rec (fun _ => H5) (fun g0 g1 g2 g3 g4 g5 g6 g7 g8 g9 g10 g11 g12 g13 g14 g15 => .mk g0 g1 g2 (q g3) g4 g5 g6 g7 g8 g9 g10 g11 g12 g13 g14 g15)
def H5.g4 : H5 → H4 := @H5.rec (fun _ => H4) (fun _ _ _ _ g4 _ _ _ _ _ _ _ _ _ _ _ => g4)
def H5.s4 : (H4 → H4) → H5 → H5 := fun q => @H5.rec (fun _ => H5) (fun g0 g1 g2 g3 g4 g5 g6 g7 g8 g9 g10 g11 g12 g13 g14 g15 => .mk g0 g1 g2 g3 (q g4) g5 g6 g7 g8 g9 g10 g11 g12 g13 g14 g15)
def H5.g5 : H5 → H4 := @H5.rec (fun _ => H4) (fun _ _ _ _ _ g5 _ _ _ _ _ _ _ _ _ _ => g5)
def H5.s5 : (H4 → H4) → H5 → H5 := fun q => @H5.rec (fun _ => H5) (fun g0 g1 g2 g3 g4 g5 g6 g7 g8 g9 g10 g11 g12 g13 g14 g15 => .mk g0 g1 g2 g3 g4 (q g5) g6 g7 g8 g9 g10 g11 g12 g13 g14 g15)
def H5.g6 : H5 → H4 := @H5.rec (fun _ => H4) (fun _ _ _ _ _ _ g6 _ _ _ _ _ _ _ _ _ => g6)
def H5.s6 : (H4 → H4) → H5 → H5 := fun q => @H5.rec (fun _ => H5) (fun g0 g1 g2 g3 g4 g5 g6 g7 g8 g9 g10 g11 g12 g13 g14 g15 => .mk g0 g1 g2 g3 g4 g5 (q g6) g7 g8 g9 g10 g11 g12 g13 g14 g15)
def H5.g7 : H5 → H4 := @H5.rec (fun _ => H4) (fun _ _ _ _ _ _ _ g7 _ _ _ _ _ _ _ _ => g7)
def H5.s7 : (H4 → H4) → H5 → H5 := fun q => @H5.rec (fun _ => H5) (fun g0 g1 g2 g3 g4 g5 g6 g7 g8 g9 g10 g11 g12 g13 g14 g15 => .mk g0 g1 g2 g3 g4 g5 g6 (q g7) g8 g9 g10 g11 g12 g13 g14 g15)
def H5.g8 : H5 → H4 := @H5.rec (fun _ => H4) (fun _ _ _ _ _ _ _ _ g8 _ _ _ _ _ _ _ => g8)
def H5.s8 : (H4 → H4) → H5 → H5 := fun q => @H5.rec (fun _ => H5) (fun g0 g1 g2 g3 g4 g5 g6 g7 g8 g9 g10 g11 g12 g13 g14 g15 => .mk g0 g1 g2 g3 g4 g5 g6 g7 (q g8) g9 g10 g11 g12 g13 g14 g15)
def H5.g9 : H5 → H4 := @H5.rec (fun _ => H4) (fun _ _ _ _ _ _ _ _ _ g9 _ _ _ _ _ _ => g9)
def H5.s9 : (H4 → H4) → H5 → H5 := fun q => @H5.rec (fun _ => H5) (fun g0 g1 g2 g3 g4 g5 g6 g7 g8 g9 g10 g11 g12 g13 g14 g15 => .mk g0 g1 g2 g3 g4 g5 g6 g7 g8 (q g9) g10 g11 g12 g13 g14 g15)
def H5.g10 : H5 → H4 := @H5.rec (fun _ => H4) (fun _ _ _ _ _ _ _ _ _ _ g10 _ _ _ _ _ => g10)
def H5.s10 : (H4 → H4) → H5 → H5 := fun q => @H5.rec (fun _ => H5) (fun g0 g1 g2 g3 g4 g5 g6 g7 g8 g9 g10 g11 g12 g13 g14 g15 => .mk g0 g1 g2 g3 g4 g5 g6 g7 g8 g9 (q g10) g11 g12 g13 g14 g15)
def H5.g11 : H5 → H4 := @H5.rec (fun _ => H4) (fun _ _ _ _ _ _ _ _ _ _ _ g11 _ _ _ _ => g11)
def H5.s11 : (H4 → H4) → H5 → H5 := fun q => @H5.rec (fun _ => H5) (fun g0 g1 g2 g3 g4 g5 g6 g7 g8 g9 g10 g11 g12 g13 g14 g15 => .mk g0 g1 g2 g3 g4 g5 g6 g7 g8 g9 g10 (q g11) g12 g13 g14 g15)
def H5.g12 : H5 → H4 := @H5.rec (fun _ => H4) (fun _ _ _ _ _ _ _ _ _ _ _ _ g12 _ _ _ => g12)
def H5.s12 : (H4 → H4) → H5 → H5 := fun q => @H5.rec (fun _ => H5) (fun g0 g1 g2 g3 g4 g5 g6 g7 g8 g9 g10 g11 g12 g13 g14 g15 => .mk g0 g1 g2 g3 g4 g5 g6 g7 g8 g9 g10 g11 (q g12) g13 g14 g15)
def H5.g13 : H5 → H4 := @H5.rec (fun _ => H4) (fun _ _ _ _ _ _ _ _ _ _ _ _ _ g13 _ _ => g13)
def H5.s13 : (H4 → H4) → H5 → H5 := fun q => @H5.rec (fun _ => H5) (fun g0 g1 g2 g3 g4 g5 g6 g7 g8 g9 g10 g11 g12 g13 g14 g15 => .mk g0 g1 g2 g3 g4 g5 g6 g7 g8 g9 g10 g11 g12 (q g13) g14 g15)
def H5.g14 : H5 → H4 := @H5.rec (fun _ => H4) (fun _ _ _ _ _ _ _ _ _ _ _ _ _ _ g14 _ => g14)
def H5.s14 : (H4 → H4) → H5 → H5 := fun q => @H5.rec (fun _ => H5) (fun g0 g1 g2 g3 g4 g5 g6 g7 g8 g9 g10 g11 g12 g13 g14 g15 => .mk g0 g1 g2 g3 g4 g5 g6 g7 g8 g9 g10 g11 g12 g13 (q g14) g15)
def H5.g15 : H5 → H4 := @H5.rec (fun _ => H4) (fun _ _ _ _ _ _ _ _ _ _ _ _ _ _ _ g15 => g15)
def H5.s15 : (H4 → H4) → H5 → H5 := fun q => @H5.rec (fun _ => H5) (fun g0 g1 g2 g3 g4 g5 g6 g7 g8 g9 g10 g11 g12 g13 g14 g15 => .mk g0 g1 g2 g3 g4 g5 g6 g7 g8 g9 g10 g11 g12 g13 g14 (q g15))
def H5.get : D16 → H5 → H4 := @D16.rec (fun _ => H5 → H4) H5.g0 H5.g1 H5.g2 H5.g3 H5.g4 H5.g5 H5.g6 H5.g7 H5.g8 H5.g9 H5.g10 H5.g11 H5.g12 H5.g13 H5.g14 H5.g15
def H5.upd : D16 → (H4 → H4) → H5 → H5 := @D16.rec (fun _ => (H4 → H4) → H5 → H5) H5.s0 H5.s1 H5.s2 H5.s3 H5.s4 H5.s5 H5.s6 H5.s7 H5.s8 H5.s9 H5.s10 H5.s11 H5.s12 H5.s13 H5.s14 H5.s15
def h1 : H1 := .mk .dead .dead .dead .dead .dead .dead .dead .dead .dead .dead .dead .dead .dead .dead .dead .dead
def h2 : H2 := .mk h1 h1 h1 h1 h1 h1 h1 h1 h1 h1 h1 h1 h1 h1 h1 h1
def h3 : H3 := .mk h2 h2 h2 h2 h2 h2 h2 h2 h2 h2 h2 h2 h2 h2 h2 h2
def h4 : H4 := .mk h3 h3 h3 h3 h3 h3 h3 h3 h3 h3 h3 h3 h3 h3 h3 h3
def h5 : H5 := .mk h4 h4 h4 h4 h4 h4 h4 h4 h4 h4 h4 h4 h4 h4 h4 h4

abbrev HT := H5
def getH (n : Nat) (h : HT) : AObj := H1.get (dig n) (H2.get (dig (n / 16)) (H3.get (dig (n / 256)) (H4.get (dig (n / 4096)) (H5.get (dig (n / 65536)) h))))
def setH (n : Nat) (o : AObj) (h : HT) : HT :=
  H5.upd (dig (n / 65536)) (H4.upd (dig (n / 4096)) (H3.upd (dig (n / 256)) (H2.upd (dig (n / 16)) (H1.upd (dig n) fun _ => o)))) h
inductive HS where | mk (heap : HT) (next : Nat) (fams : HT)
def HS.heap : HS → HT := @HS.rec (fun _ => HT) fun h _ _ => h
def HS.fams : HS → HT := @HS.rec (fun _ => HT) fun _ _ f => f
def HS.put (b : Nat) (o : AObj) : HS → HS := @HS.rec (fun _ => HS) fun h n f => .mk (setH b o h) n f
def HS.bump (fam ver : Nat) : HS → HS := @HS.rec (fun _ => HS) fun h n f => .mk h n (setH fam (.cells 0 0 ver .nil .ro) f)
def verOf (fam : Nat) (f : HT) : Nat := @AObj.rec (fun _ => Nat) 0 (fun _ _ _ => 0) (fun _ _ n _ _ => n) (fun _ _ => 0) (fun _ _ _ _ _ _ _ _ => 0) (fun _ => 0) (fun _ _ _ _ => 0) (fun _ _ => 0) (getH fam f)

inductive AIt where
  | code (c : Code)
  | inBlock (id : Nat)
  | inLoop (c : Code)
  | inScope (c : Code)
  | rg (ops : Array Oper) (l : List Oper) (ns : List Nat)
  | dr (ops : Array Oper) (l : List (Nat × Bool)) (ns : List Nat)
  | endRF (l : Nat)
  | begR
abbrev Todo := List AIt

inductive FI where | mk (dfr : Bool) (round : Option Nat) (defers : DL)
inductive DB where | none (last : Bool) | slot (n : Nat) (last : Bool) | loc | bad
inductive Stk where | nil | fr (e : E16) (k : Todo) (L : Loc) (fn : Nat) (fi : FI) (d : DB) (t : Stk)
inductive Out where
  | fail
  | done (v : AV) (hs : HS)
  | more (e : E16) (k : Todo) (L : Loc) (fn : Nat) (fi : FI) (s : Stk) (hs : HS)

abbrev K := E16 → Todo → Loc → Nat → FI → Stk → HS → Out
inductive OB where | mk (f : E16 → Loc → AV)
inductive SB where | mk (f : AV → E16 → E16)
def opSlot (n : Nat) : OB := @D16.rec (fun _ => OB)
  (@D16.rec (fun _ => OB) (.mk fun e _ => (e.g0).g0) (.mk fun e _ => (e.g0).g1) (.mk fun e _ => (e.g0).g2) (.mk fun e _ => (e.g0).g3) (.mk fun e _ => (e.g0).g4) (.mk fun e _ => (e.g0).g5) (.mk fun e _ => (e.g0).g6) (.mk fun e _ => (e.g0).g7) (.mk fun e _ => (e.g0).g8) (.mk fun e _ => (e.g0).g9) (.mk fun e _ => (e.g0).g10) (.mk fun e _ => (e.g0).g11) (.mk fun e _ => (e.g0).g12) (.mk fun e _ => (e.g0).g13) (.mk fun e _ => (e.g0).g14) (.mk fun e _ => (e.g0).g15) (dig n))
  (@D16.rec (fun _ => OB) (.mk fun e _ => (e.g1).g0) (.mk fun e _ => (e.g1).g1) (.mk fun e _ => (e.g1).g2) (.mk fun e _ => (e.g1).g3) (.mk fun e _ => (e.g1).g4) (.mk fun e _ => (e.g1).g5) (.mk fun e _ => (e.g1).g6) (.mk fun e _ => (e.g1).g7) (.mk fun e _ => (e.g1).g8) (.mk fun e _ => (e.g1).g9) (.mk fun e _ => (e.g1).g10) (.mk fun e _ => (e.g1).g11) (.mk fun e _ => (e.g1).g12) (.mk fun e _ => (e.g1).g13) (.mk fun e _ => (e.g1).g14) (.mk fun e _ => (e.g1).g15) (dig n))
  (@D16.rec (fun _ => OB) (.mk fun e _ => (e.g2).g0) (.mk fun e _ => (e.g2).g1) (.mk fun e _ => (e.g2).g2) (.mk fun e _ => (e.g2).g3) (.mk fun e _ => (e.g2).g4) (.mk fun e _ => (e.g2).g5) (.mk fun e _ => (e.g2).g6) (.mk fun e _ => (e.g2).g7) (.mk fun e _ => (e.g2).g8) (.mk fun e _ => (e.g2).g9) (.mk fun e _ => (e.g2).g10) (.mk fun e _ => (e.g2).g11) (.mk fun e _ => (e.g2).g12) (.mk fun e _ => (e.g2).g13) (.mk fun e _ => (e.g2).g14) (.mk fun e _ => (e.g2).g15) (dig n))
  (@D16.rec (fun _ => OB) (.mk fun e _ => (e.g3).g0) (.mk fun e _ => (e.g3).g1) (.mk fun e _ => (e.g3).g2) (.mk fun e _ => (e.g3).g3) (.mk fun e _ => (e.g3).g4) (.mk fun e _ => (e.g3).g5) (.mk fun e _ => (e.g3).g6) (.mk fun e _ => (e.g3).g7) (.mk fun e _ => (e.g3).g8) (.mk fun e _ => (e.g3).g9) (.mk fun e _ => (e.g3).g10) (.mk fun e _ => (e.g3).g11) (.mk fun e _ => (e.g3).g12) (.mk fun e _ => (e.g3).g13) (.mk fun e _ => (e.g3).g14) (.mk fun e _ => (e.g3).g15) (dig n))
  (@D16.rec (fun _ => OB) (.mk fun e _ => (e.g4).g0) (.mk fun e _ => (e.g4).g1) (.mk fun e _ => (e.g4).g2) (.mk fun e _ => (e.g4).g3) (.mk fun e _ => (e.g4).g4) (.mk fun e _ => (e.g4).g5) (.mk fun e _ => (e.g4).g6) (.mk fun e _ => (e.g4).g7) (.mk fun e _ => (e.g4).g8) (.mk fun e _ => (e.g4).g9) (.mk fun e _ => (e.g4).g10) (.mk fun e _ => (e.g4).g11) (.mk fun e _ => (e.g4).g12) (.mk fun e _ => (e.g4).g13) (.mk fun e _ => (e.g4).g14) (.mk fun e _ => (e.g4).g15) (dig n))
  (@D16.rec (fun _ => OB) (.mk fun e _ => (e.g5).g0) (.mk fun e _ => (e.g5).g1) (.mk fun e _ => (e.g5).g2) (.mk fun e _ => (e.g5).g3) (.mk fun e _ => (e.g5).g4) (.mk fun e _ => (e.g5).g5) (.mk fun e _ => (e.g5).g6) (.mk fun e _ => (e.g5).g7) (.mk fun e _ => (e.g5).g8) (.mk fun e _ => (e.g5).g9) (.mk fun e _ => (e.g5).g10) (.mk fun e _ => (e.g5).g11) (.mk fun e _ => (e.g5).g12) (.mk fun e _ => (e.g5).g13) (.mk fun e _ => (e.g5).g14) (.mk fun e _ => (e.g5).g15) (dig n))
  (@D16.rec (fun _ => OB) (.mk fun e _ => (e.g6).g0) (.mk fun e _ => (e.g6).g1) (.mk fun e _ => (e.g6).g2) (.mk fun e _ => (e.g6).g3) (.mk fun e _ => (e.g6).g4) (.mk fun e _ => (e.g6).g5) (.mk fun e _ => (e.g6).g6) (.mk fun e _ => (e.g6).g7) (.mk fun e _ => (e.g6).g8) (.mk fun e _ => (e.g6).g9) (.mk fun e _ => (e.g6).g10) (.mk fun e _ => (e.g6).g11) (.mk fun e _ => (e.g6).g12) (.mk fun e _ => (e.g6).g13) (.mk fun e _ => (e.g6).g14) (.mk fun e _ => (e.g6).g15) (dig n))
  (@D16.rec (fun _ => OB) (.mk fun e _ => (e.g7).g0) (.mk fun e _ => (e.g7).g1) (.mk fun e _ => (e.g7).g2) (.mk fun e _ => (e.g7).g3) (.mk fun e _ => (e.g7).g4) (.mk fun e _ => (e.g7).g5) (.mk fun e _ => (e.g7).g6) (.mk fun e _ => (e.g7).g7) (.mk fun e _ => (e.g7).g8) (.mk fun e _ => (e.g7).g9) (.mk fun e _ => (e.g7).g10) (.mk fun e _ => (e.g7).g11) (.mk fun e _ => (e.g7).g12) (.mk fun e _ => (e.g7).g13) (.mk fun e _ => (e.g7).g14) (.mk fun e _ => (e.g7).g15) (dig n))
  (@D16.rec (fun _ => OB) (.mk fun e _ => (e.g8).g0) (.mk fun e _ => (e.g8).g1) (.mk fun e _ => (e.g8).g2) (.mk fun e _ => (e.g8).g3) (.mk fun e _ => (e.g8).g4) (.mk fun e _ => (e.g8).g5) (.mk fun e _ => (e.g8).g6) (.mk fun e _ => (e.g8).g7) (.mk fun e _ => (e.g8).g8) (.mk fun e _ => (e.g8).g9) (.mk fun e _ => (e.g8).g10) (.mk fun e _ => (e.g8).g11) (.mk fun e _ => (e.g8).g12) (.mk fun e _ => (e.g8).g13) (.mk fun e _ => (e.g8).g14) (.mk fun e _ => (e.g8).g15) (dig n))
  (@D16.rec (fun _ => OB) (.mk fun e _ => (e.g9).g0) (.mk fun e _ => (e.g9).g1) (.mk fun e _ => (e.g9).g2) (.mk fun e _ => (e.g9).g3) (.mk fun e _ => (e.g9).g4) (.mk fun e _ => (e.g9).g5) (.mk fun e _ => (e.g9).g6) (.mk fun e _ => (e.g9).g7) (.mk fun e _ => (e.g9).g8) (.mk fun e _ => (e.g9).g9) (.mk fun e _ => (e.g9).g10) (.mk fun e _ => (e.g9).g11) (.mk fun e _ => (e.g9).g12) (.mk fun e _ => (e.g9).g13) (.mk fun e _ => (e.g9).g14) (.mk fun e _ => (e.g9).g15) (dig n))
  (@D16.rec (fun _ => OB) (.mk fun e _ => (e.g10).g0) (.mk fun e _ => (e.g10).g1) (.mk fun e _ => (e.g10).g2) (.mk fun e _ => (e.g10).g3) (.mk fun e _ => (e.g10).g4) (.mk fun e _ => (e.g10).g5) (.mk fun e _ => (e.g10).g6) (.mk fun e _ => (e.g10).g7) (.mk fun e _ => (e.g10).g8) (.mk fun e _ => (e.g10).g9) (.mk fun e _ => (e.g10).g10) (.mk fun e _ => (e.g10).g11) (.mk fun e _ => (e.g10).g12) (.mk fun e _ => (e.g10).g13) (.mk fun e _ => (e.g10).g14) (.mk fun e _ => (e.g10).g15) (dig n))
  (@D16.rec (fun _ => OB) (.mk fun e _ => (e.g11).g0) (.mk fun e _ => (e.g11).g1) (.mk fun e _ => (e.g11).g2) (.mk fun e _ => (e.g11).g3) (.mk fun e _ => (e.g11).g4) (.mk fun e _ => (e.g11).g5) (.mk fun e _ => (e.g11).g6) (.mk fun e _ => (e.g11).g7) (.mk fun e _ => (e.g11).g8) (.mk fun e _ => (e.g11).g9) (.mk fun e _ => (e.g11).g10) (.mk fun e _ => (e.g11).g11) (.mk fun e _ => (e.g11).g12) (.mk fun e _ => (e.g11).g13) (.mk fun e _ => (e.g11).g14) (.mk fun e _ => (e.g11).g15) (dig n))
  (@D16.rec (fun _ => OB) (.mk fun e _ => (e.g12).g0) (.mk fun e _ => (e.g12).g1) (.mk fun e _ => (e.g12).g2) (.mk fun e _ => (e.g12).g3) (.mk fun e _ => (e.g12).g4) (.mk fun e _ => (e.g12).g5) (.mk fun e _ => (e.g12).g6) (.mk fun e _ => (e.g12).g7) (.mk fun e _ => (e.g12).g8) (.mk fun e _ => (e.g12).g9) (.mk fun e _ => (e.g12).g10) (.mk fun e _ => (e.g12).g11) (.mk fun e _ => (e.g12).g12) (.mk fun e _ => (e.g12).g13) (.mk fun e _ => (e.g12).g14) (.mk fun e _ => (e.g12).g15) (dig n))
  (@D16.rec (fun _ => OB) (.mk fun e _ => (e.g13).g0) (.mk fun e _ => (e.g13).g1) (.mk fun e _ => (e.g13).g2) (.mk fun e _ => (e.g13).g3) (.mk fun e _ => (e.g13).g4) (.mk fun e _ => (e.g13).g5) (.mk fun e _ => (e.g13).g6) (.mk fun e _ => (e.g13).g7) (.mk fun e _ => (e.g13).g8) (.mk fun e _ => (e.g13).g9) (.mk fun e _ => (e.g13).g10) (.mk fun e _ => (e.g13).g11) (.mk fun e _ => (e.g13).g12) (.mk fun e _ => (e.g13).g13) (.mk fun e _ => (e.g13).g14) (.mk fun e _ => (e.g13).g15) (dig n))
  (@D16.rec (fun _ => OB) (.mk fun e _ => (e.g14).g0) (.mk fun e _ => (e.g14).g1) (.mk fun e _ => (e.g14).g2) (.mk fun e _ => (e.g14).g3) (.mk fun e _ => (e.g14).g4) (.mk fun e _ => (e.g14).g5) (.mk fun e _ => (e.g14).g6) (.mk fun e _ => (e.g14).g7) (.mk fun e _ => (e.g14).g8) (.mk fun e _ => (e.g14).g9) (.mk fun e _ => (e.g14).g10) (.mk fun e _ => (e.g14).g11) (.mk fun e _ => (e.g14).g12) (.mk fun e _ => (e.g14).g13) (.mk fun e _ => (e.g14).g14) (.mk fun e _ => (e.g14).g15) (dig n))
  (@D16.rec (fun _ => OB) (.mk fun e _ => (e.g15).g0) (.mk fun e _ => (e.g15).g1) (.mk fun e _ => (e.g15).g2) (.mk fun e _ => (e.g15).g3) (.mk fun e _ => (e.g15).g4) (.mk fun e _ => (e.g15).g5) (.mk fun e _ => (e.g15).g6) (.mk fun e _ => (e.g15).g7) (.mk fun e _ => (e.g15).g8) (.mk fun e _ => (e.g15).g9) (.mk fun e _ => (e.g15).g10) (.mk fun e _ => (e.g15).g11) (.mk fun e _ => (e.g15).g12) (.mk fun e _ => (e.g15).g13) (.mk fun e _ => (e.g15).g14) (.mk fun e _ => (e.g15).g15) (dig n))
  (dig (n / 16))
def stSlot (n : Nat) : SB := @D16.rec (fun _ => SB)
  (@D16.rec (fun _ => SB) (.mk fun x => E16.s0 (V16.s0 fun _ => x)) (.mk fun x => E16.s0 (V16.s1 fun _ => x)) (.mk fun x => E16.s0 (V16.s2 fun _ => x)) (.mk fun x => E16.s0 (V16.s3 fun _ => x)) (.mk fun x => E16.s0 (V16.s4 fun _ => x)) (.mk fun x => E16.s0 (V16.s5 fun _ => x)) (.mk fun x => E16.s0 (V16.s6 fun _ => x)) (.mk fun x => E16.s0 (V16.s7 fun _ => x)) (.mk fun x => E16.s0 (V16.s8 fun _ => x)) (.mk fun x => E16.s0 (V16.s9 fun _ => x)) (.mk fun x => E16.s0 (V16.s10 fun _ => x)) (.mk fun x => E16.s0 (V16.s11 fun _ => x)) (.mk fun x => E16.s0 (V16.s12 fun _ => x)) (.mk fun x => E16.s0 (V16.s13 fun _ => x)) (.mk fun x => E16.s0 (V16.s14 fun _ => x)) (.mk fun x => E16.s0 (V16.s15 fun _ => x)) (dig n))
  (@D16.rec (fun _ => SB) (.mk fun x => E16.s1 (V16.s0 fun _ => x)) (.mk fun x => E16.s1 (V16.s1 fun _ => x)) (.mk fun x => E16.s1 (V16.s2 fun _ => x)) (.mk fun x => E16.s1 (V16.s3 fun _ => x)) (.mk fun x => E16.s1 (V16.s4 fun _ => x)) (.mk fun x => E16.s1 (V16.s5 fun _ => x)) (.mk fun x => E16.s1 (V16.s6 fun _ => x)) (.mk fun x => E16.s1 (V16.s7 fun _ => x)) (.mk fun x => E16.s1 (V16.s8 fun _ => x)) (.mk fun x => E16.s1 (V16.s9 fun _ => x)) (.mk fun x => E16.s1 (V16.s10 fun _ => x)) (.mk fun x => E16.s1 (V16.s11 fun _ => x)) (.mk fun x => E16.s1 (V16.s12 fun _ => x)) (.mk fun x => E16.s1 (V16.s13 fun _ => x)) (.mk fun x => E16.s1 (V16.s14 fun _ => x)) (.mk fun x => E16.s1 (V16.s15 fun _ => x)) (dig n))
  (@D16.rec (fun _ => SB) (.mk fun x => E16.s2 (V16.s0 fun _ => x)) (.mk fun x => E16.s2 (V16.s1 fun _ => x)) (.mk fun x => E16.s2 (V16.s2 fun _ => x)) (.mk fun x => E16.s2 (V16.s3 fun _ => x)) (.mk fun x => E16.s2 (V16.s4 fun _ => x)) (.mk fun x => E16.s2 (V16.s5 fun _ => x)) (.mk fun x => E16.s2 (V16.s6 fun _ => x)) (.mk fun x => E16.s2 (V16.s7 fun _ => x)) (.mk fun x => E16.s2 (V16.s8 fun _ => x)) (.mk fun x => E16.s2 (V16.s9 fun _ => x)) (.mk fun x => E16.s2 (V16.s10 fun _ => x)) (.mk fun x => E16.s2 (V16.s11 fun _ => x)) (.mk fun x => E16.s2 (V16.s12 fun _ => x)) (.mk fun x => E16.s2 (V16.s13 fun _ => x)) (.mk fun x => E16.s2 (V16.s14 fun _ => x)) (.mk fun x => E16.s2 (V16.s15 fun _ => x)) (dig n))
  (@D16.rec (fun _ => SB) (.mk fun x => E16.s3 (V16.s0 fun _ => x)) (.mk fun x => E16.s3 (V16.s1 fun _ => x)) (.mk fun x => E16.s3 (V16.s2 fun _ => x)) (.mk fun x => E16.s3 (V16.s3 fun _ => x)) (.mk fun x => E16.s3 (V16.s4 fun _ => x)) (.mk fun x => E16.s3 (V16.s5 fun _ => x)) (.mk fun x => E16.s3 (V16.s6 fun _ => x)) (.mk fun x => E16.s3 (V16.s7 fun _ => x)) (.mk fun x => E16.s3 (V16.s8 fun _ => x)) (.mk fun x => E16.s3 (V16.s9 fun _ => x)) (.mk fun x => E16.s3 (V16.s10 fun _ => x)) (.mk fun x => E16.s3 (V16.s11 fun _ => x)) (.mk fun x => E16.s3 (V16.s12 fun _ => x)) (.mk fun x => E16.s3 (V16.s13 fun _ => x)) (.mk fun x => E16.s3 (V16.s14 fun _ => x)) (.mk fun x => E16.s3 (V16.s15 fun _ => x)) (dig n))
  (@D16.rec (fun _ => SB) (.mk fun x => E16.s4 (V16.s0 fun _ => x)) (.mk fun x => E16.s4 (V16.s1 fun _ => x)) (.mk fun x => E16.s4 (V16.s2 fun _ => x)) (.mk fun x => E16.s4 (V16.s3 fun _ => x)) (.mk fun x => E16.s4 (V16.s4 fun _ => x)) (.mk fun x => E16.s4 (V16.s5 fun _ => x)) (.mk fun x => E16.s4 (V16.s6 fun _ => x)) (.mk fun x => E16.s4 (V16.s7 fun _ => x)) (.mk fun x => E16.s4 (V16.s8 fun _ => x)) (.mk fun x => E16.s4 (V16.s9 fun _ => x)) (.mk fun x => E16.s4 (V16.s10 fun _ => x)) (.mk fun x => E16.s4 (V16.s11 fun _ => x)) (.mk fun x => E16.s4 (V16.s12 fun _ => x)) (.mk fun x => E16.s4 (V16.s13 fun _ => x)) (.mk fun x => E16.s4 (V16.s14 fun _ => x)) (.mk fun x => E16.s4 (V16.s15 fun _ => x)) (dig n))
  (@D16.rec (fun _ => SB) (.mk fun x => E16.s5 (V16.s0 fun _ => x)) (.mk fun x => E16.s5 (V16.s1 fun _ => x)) (.mk fun x => E16.s5 (V16.s2 fun _ => x)) (.mk fun x => E16.s5 (V16.s3 fun _ => x)) (.mk fun x => E16.s5 (V16.s4 fun _ => x)) (.mk fun x => E16.s5 (V16.s5 fun _ => x)) (.mk fun x => E16.s5 (V16.s6 fun _ => x)) (.mk fun x => E16.s5 (V16.s7 fun _ => x)) (.mk fun x => E16.s5 (V16.s8 fun _ => x)) (.mk fun x => E16.s5 (V16.s9 fun _ => x)) (.mk fun x => E16.s5 (V16.s10 fun _ => x)) (.mk fun x => E16.s5 (V16.s11 fun _ => x)) (.mk fun x => E16.s5 (V16.s12 fun _ => x)) (.mk fun x => E16.s5 (V16.s13 fun _ => x)) (.mk fun x => E16.s5 (V16.s14 fun _ => x)) (.mk fun x => E16.s5 (V16.s15 fun _ => x)) (dig n))
  (@D16.rec (fun _ => SB) (.mk fun x => E16.s6 (V16.s0 fun _ => x)) (.mk fun x => E16.s6 (V16.s1 fun _ => x)) (.mk fun x => E16.s6 (V16.s2 fun _ => x)) (.mk fun x => E16.s6 (V16.s3 fun _ => x)) (.mk fun x => E16.s6 (V16.s4 fun _ => x)) (.mk fun x => E16.s6 (V16.s5 fun _ => x)) (.mk fun x => E16.s6 (V16.s6 fun _ => x)) (.mk fun x => E16.s6 (V16.s7 fun _ => x)) (.mk fun x => E16.s6 (V16.s8 fun _ => x)) (.mk fun x => E16.s6 (V16.s9 fun _ => x)) (.mk fun x => E16.s6 (V16.s10 fun _ => x)) (.mk fun x => E16.s6 (V16.s11 fun _ => x)) (.mk fun x => E16.s6 (V16.s12 fun _ => x)) (.mk fun x => E16.s6 (V16.s13 fun _ => x)) (.mk fun x => E16.s6 (V16.s14 fun _ => x)) (.mk fun x => E16.s6 (V16.s15 fun _ => x)) (dig n))
  (@D16.rec (fun _ => SB) (.mk fun x => E16.s7 (V16.s0 fun _ => x)) (.mk fun x => E16.s7 (V16.s1 fun _ => x)) (.mk fun x => E16.s7 (V16.s2 fun _ => x)) (.mk fun x => E16.s7 (V16.s3 fun _ => x)) (.mk fun x => E16.s7 (V16.s4 fun _ => x)) (.mk fun x => E16.s7 (V16.s5 fun _ => x)) (.mk fun x => E16.s7 (V16.s6 fun _ => x)) (.mk fun x => E16.s7 (V16.s7 fun _ => x)) (.mk fun x => E16.s7 (V16.s8 fun _ => x)) (.mk fun x => E16.s7 (V16.s9 fun _ => x)) (.mk fun x => E16.s7 (V16.s10 fun _ => x)) (.mk fun x => E16.s7 (V16.s11 fun _ => x)) (.mk fun x => E16.s7 (V16.s12 fun _ => x)) (.mk fun x => E16.s7 (V16.s13 fun _ => x)) (.mk fun x => E16.s7 (V16.s14 fun _ => x)) (.mk fun x => E16.s7 (V16.s15 fun _ => x)) (dig n))
  (@D16.rec (fun _ => SB) (.mk fun x => E16.s8 (V16.s0 fun _ => x)) (.mk fun x => E16.s8 (V16.s1 fun _ => x)) (.mk fun x => E16.s8 (V16.s2 fun _ => x)) (.mk fun x => E16.s8 (V16.s3 fun _ => x)) (.mk fun x => E16.s8 (V16.s4 fun _ => x)) (.mk fun x => E16.s8 (V16.s5 fun _ => x)) (.mk fun x => E16.s8 (V16.s6 fun _ => x)) (.mk fun x => E16.s8 (V16.s7 fun _ => x)) (.mk fun x => E16.s8 (V16.s8 fun _ => x)) (.mk fun x => E16.s8 (V16.s9 fun _ => x)) (.mk fun x => E16.s8 (V16.s10 fun _ => x)) (.mk fun x => E16.s8 (V16.s11 fun _ => x)) (.mk fun x => E16.s8 (V16.s12 fun _ => x)) (.mk fun x => E16.s8 (V16.s13 fun _ => x)) (.mk fun x => E16.s8 (V16.s14 fun _ => x)) (.mk fun x => E16.s8 (V16.s15 fun _ => x)) (dig n))
  (@D16.rec (fun _ => SB) (.mk fun x => E16.s9 (V16.s0 fun _ => x)) (.mk fun x => E16.s9 (V16.s1 fun _ => x)) (.mk fun x => E16.s9 (V16.s2 fun _ => x)) (.mk fun x => E16.s9 (V16.s3 fun _ => x)) (.mk fun x => E16.s9 (V16.s4 fun _ => x)) (.mk fun x => E16.s9 (V16.s5 fun _ => x)) (.mk fun x => E16.s9 (V16.s6 fun _ => x)) (.mk fun x => E16.s9 (V16.s7 fun _ => x)) (.mk fun x => E16.s9 (V16.s8 fun _ => x)) (.mk fun x => E16.s9 (V16.s9 fun _ => x)) (.mk fun x => E16.s9 (V16.s10 fun _ => x)) (.mk fun x => E16.s9 (V16.s11 fun _ => x)) (.mk fun x => E16.s9 (V16.s12 fun _ => x)) (.mk fun x => E16.s9 (V16.s13 fun _ => x)) (.mk fun x => E16.s9 (V16.s14 fun _ => x)) (.mk fun x => E16.s9 (V16.s15 fun _ => x)) (dig n))
  (@D16.rec (fun _ => SB) (.mk fun x => E16.s10 (V16.s0 fun _ => x)) (.mk fun x => E16.s10 (V16.s1 fun _ => x)) (.mk fun x => E16.s10 (V16.s2 fun _ => x)) (.mk fun x => E16.s10 (V16.s3 fun _ => x)) (.mk fun x => E16.s10 (V16.s4 fun _ => x)) (.mk fun x => E16.s10 (V16.s5 fun _ => x)) (.mk fun x => E16.s10 (V16.s6 fun _ => x)) (.mk fun x => E16.s10 (V16.s7 fun _ => x)) (.mk fun x => E16.s10 (V16.s8 fun _ => x)) (.mk fun x => E16.s10 (V16.s9 fun _ => x)) (.mk fun x => E16.s10 (V16.s10 fun _ => x)) (.mk fun x => E16.s10 (V16.s11 fun _ => x)) (.mk fun x => E16.s10 (V16.s12 fun _ => x)) (.mk fun x => E16.s10 (V16.s13 fun _ => x)) (.mk fun x => E16.s10 (V16.s14 fun _ => x)) (.mk fun x => E16.s10 (V16.s15 fun _ => x)) (dig n))
  (@D16.rec (fun _ => SB) (.mk fun x => E16.s11 (V16.s0 fun _ => x)) (.mk fun x => E16.s11 (V16.s1 fun _ => x)) (.mk fun x => E16.s11 (V16.s2 fun _ => x)) (.mk fun x => E16.s11 (V16.s3 fun _ => x)) (.mk fun x => E16.s11 (V16.s4 fun _ => x)) (.mk fun x => E16.s11 (V16.s5 fun _ => x)) (.mk fun x => E16.s11 (V16.s6 fun _ => x)) (.mk fun x => E16.s11 (V16.s7 fun _ => x)) (.mk fun x => E16.s11 (V16.s8 fun _ => x)) (.mk fun x => E16.s11 (V16.s9 fun _ => x)) (.mk fun x => E16.s11 (V16.s10 fun _ => x)) (.mk fun x => E16.s11 (V16.s11 fun _ => x)) (.mk fun x => E16.s11 (V16.s12 fun _ => x)) (.mk fun x => E16.s11 (V16.s13 fun _ => x)) (.mk fun x => E16.s11 (V16.s14 fun _ => x)) (.mk fun x => E16.s11 (V16.s15 fun _ => x)) (dig n))
  (@D16.rec (fun _ => SB) (.mk fun x => E16.s12 (V16.s0 fun _ => x)) (.mk fun x => E16.s12 (V16.s1 fun _ => x)) (.mk fun x => E16.s12 (V16.s2 fun _ => x)) (.mk fun x => E16.s12 (V16.s3 fun _ => x)) (.mk fun x => E16.s12 (V16.s4 fun _ => x)) (.mk fun x => E16.s12 (V16.s5 fun _ => x)) (.mk fun x => E16.s12 (V16.s6 fun _ => x)) (.mk fun x => E16.s12 (V16.s7 fun _ => x)) (.mk fun x => E16.s12 (V16.s8 fun _ => x)) (.mk fun x => E16.s12 (V16.s9 fun _ => x)) (.mk fun x => E16.s12 (V16.s10 fun _ => x)) (.mk fun x => E16.s12 (V16.s11 fun _ => x)) (.mk fun x => E16.s12 (V16.s12 fun _ => x)) (.mk fun x => E16.s12 (V16.s13 fun _ => x)) (.mk fun x => E16.s12 (V16.s14 fun _ => x)) (.mk fun x => E16.s12 (V16.s15 fun _ => x)) (dig n))
  (@D16.rec (fun _ => SB) (.mk fun x => E16.s13 (V16.s0 fun _ => x)) (.mk fun x => E16.s13 (V16.s1 fun _ => x)) (.mk fun x => E16.s13 (V16.s2 fun _ => x)) (.mk fun x => E16.s13 (V16.s3 fun _ => x)) (.mk fun x => E16.s13 (V16.s4 fun _ => x)) (.mk fun x => E16.s13 (V16.s5 fun _ => x)) (.mk fun x => E16.s13 (V16.s6 fun _ => x)) (.mk fun x => E16.s13 (V16.s7 fun _ => x)) (.mk fun x => E16.s13 (V16.s8 fun _ => x)) (.mk fun x => E16.s13 (V16.s9 fun _ => x)) (.mk fun x => E16.s13 (V16.s10 fun _ => x)) (.mk fun x => E16.s13 (V16.s11 fun _ => x)) (.mk fun x => E16.s13 (V16.s12 fun _ => x)) (.mk fun x => E16.s13 (V16.s13 fun _ => x)) (.mk fun x => E16.s13 (V16.s14 fun _ => x)) (.mk fun x => E16.s13 (V16.s15 fun _ => x)) (dig n))
  (@D16.rec (fun _ => SB) (.mk fun x => E16.s14 (V16.s0 fun _ => x)) (.mk fun x => E16.s14 (V16.s1 fun _ => x)) (.mk fun x => E16.s14 (V16.s2 fun _ => x)) (.mk fun x => E16.s14 (V16.s3 fun _ => x)) (.mk fun x => E16.s14 (V16.s4 fun _ => x)) (.mk fun x => E16.s14 (V16.s5 fun _ => x)) (.mk fun x => E16.s14 (V16.s6 fun _ => x)) (.mk fun x => E16.s14 (V16.s7 fun _ => x)) (.mk fun x => E16.s14 (V16.s8 fun _ => x)) (.mk fun x => E16.s14 (V16.s9 fun _ => x)) (.mk fun x => E16.s14 (V16.s10 fun _ => x)) (.mk fun x => E16.s14 (V16.s11 fun _ => x)) (.mk fun x => E16.s14 (V16.s12 fun _ => x)) (.mk fun x => E16.s14 (V16.s13 fun _ => x)) (.mk fun x => E16.s14 (V16.s14 fun _ => x)) (.mk fun x => E16.s14 (V16.s15 fun _ => x)) (dig n))
  (@D16.rec (fun _ => SB) (.mk fun x => E16.s15 (V16.s0 fun _ => x)) (.mk fun x => E16.s15 (V16.s1 fun _ => x)) (.mk fun x => E16.s15 (V16.s2 fun _ => x)) (.mk fun x => E16.s15 (V16.s3 fun _ => x)) (.mk fun x => E16.s15 (V16.s4 fun _ => x)) (.mk fun x => E16.s15 (V16.s5 fun _ => x)) (.mk fun x => E16.s15 (V16.s6 fun _ => x)) (.mk fun x => E16.s15 (V16.s7 fun _ => x)) (.mk fun x => E16.s15 (V16.s8 fun _ => x)) (.mk fun x => E16.s15 (V16.s9 fun _ => x)) (.mk fun x => E16.s15 (V16.s10 fun _ => x)) (.mk fun x => E16.s15 (V16.s11 fun _ => x)) (.mk fun x => E16.s15 (V16.s12 fun _ => x)) (.mk fun x => E16.s15 (V16.s13 fun _ => x)) (.mk fun x => E16.s15 (V16.s14 fun _ => x)) (.mk fun x => E16.s15 (V16.s15 fun _ => x)) (dig n))
  (dig (n / 16))

inductive Fin where | mk (f : AV → K → Todo → E16 → Loc → Nat → FI → Stk → HS → Out)
def finSlot : SB → Fin := @SB.rec (fun _ => Fin) fun f => .mk fun v ih k e L fn fi s hs => ih (f v e) k L fn fi s hs
def finSlotL : SB → Fin := @SB.rec (fun _ => Fin) fun f => .mk fun v ih k e L fn fi s hs => ih (f v e) k .nil fn fi s hs
def finLoc : Fin := .mk fun v ih k e L fn fi s hs => ih e k (.cons v L) fn fi s hs
def finNone : Fin := .mk fun v ih k e L fn fi s hs => ih e k L fn fi s hs
def finNoneL : Fin := .mk fun v ih k e L fn fi s hs => ih e k .nil fn fi s hs
def finBad : Fin := .mk fun _ _ _ _ _ _ _ _ _ => .fail
def finOf : DB → Fin
  | .none false => finNone
  | .none true => finNoneL
  | .slot n false => finSlot (stSlot n)
  | .slot n true => finSlotL (stSlot n)
  | .loc => finLoc
  | .bad => finBad
def finK : Fin → AV → K → Todo → E16 → Loc → Nat → FI → Stk → HS → Out := @Fin.rec (fun _ => AV → K → Todo → E16 → Loc → Nat → FI → Stk → HS → Out) fun f => f
def ev : OB → E16 → Loc → AV := @OB.rec (fun _ => E16 → Loc → AV) fun f => f

-- views
def ptrO : AV → (Nat → Nat → Nat → Out) → Out := (@AV.rec (fun _ => (Nat → Nat → Nat → Out) → Out) (fun _ _ _ => .fail) (fun _ _ => .fail) (fun b i j q => q b i j) (fun _ _ _ _ _ _ => .fail) (fun _ _ => .fail) (fun _ => .fail) (fun _ _ _ _ _ => .fail) (fun _ _ _ => .fail) (fun _ _ _ _ _ _ _ _ _ _ _ _ => .fail))
def intO : AV → (IntKind → Int → Out) → Out := (@AV.rec (fun _ => (IntKind → Int → Out) → Out) (fun k n q => q k n) (fun _ _ => .fail) (fun _ _ _ _ => .fail) (fun _ _ _ _ _ _ => .fail) (fun _ _ => .fail) (fun _ => .fail) (fun _ _ _ _ _ => .fail) (fun _ _ _ => .fail) (fun _ _ _ _ _ _ _ _ _ _ _ _ => .fail))
def boolO : AV → Out → Out → Out := (@AV.rec (fun _ => Out → Out → Out) (fun _ _ _ _ => .fail) (fun b x y => @Bool.rec (fun _ => Out) y x b) (fun _ _ _ _ _ => .fail) (fun _ _ _ _ _ _ _ => .fail) (fun _ _ _ => .fail) (fun _ _ => .fail) (fun _ _ _ _ _ _ => .fail) (fun _ _ _ _ => .fail) (fun _ _ _ _ _ _ _ _ _ _ _ _ _ => .fail))
def aggO : AV → (AV → Out) → Out := (@AV.rec (fun _ => (AV → Out) → Out) (fun _ _ _ => .fail) (fun _ _ => .fail) (fun _ _ _ _ => .fail) (fun _ _ _ _ _ _ => .fail) (fun _ _ => .fail) (fun _ => .fail) (fun _ _ _ _ _ => .fail) (fun l _ q => q l) (fun _ _ _ _ _ _ _ _ _ _ _ _ => .fail))
def tupO : AV → (AV → Out) → Out := (@AV.rec (fun _ => (AV → Out) → Out) (fun _ _ _ => .fail) (fun _ _ => .fail) (fun _ _ _ _ => .fail) (fun _ _ _ _ _ _ => .fail) (fun _ _ => .fail) (fun _ => .fail) (fun _ _ _ _ _ => .fail) (fun _ _ _ => .fail) (fun g _ _ _ _ _ _ x _ _ _ q => @Bool.rec (fun _ => Out) .fail (q x) (Nat.beq g 10)))
/-- the cells of a value -/
def cellsV : AV → AV := (@AV.rec (fun _ => AV) (fun k n => .cons (.int k n) .nil) (fun b => .cons (.bool b) .nil) (fun b i j => .cons (.ptr b i j) .nil) (fun b i l c o => .cons (.sl b i l c o) .nil) (fun s => .cons (.str s) .nil) (.str []) (fun _ _ _ _ => .str []) (fun l _ => l) (fun g a b c d e f x y _ _ => @Bool.rec (fun _ => AV) (.cons (.oth g a b c d e f x y) .nil) (.str []) (Nat.beq g 10)))
def ifO (b : Bool) (x y : Out) : Out := @Bool.rec (fun _ => Out) y x b
def natO (n : Nat) (q : Nat → Out) : Out := @Nat.rec (fun _ => Out) (q 0) (fun m _ => q m) (Nat.add n 1)
def ltN (a b : Nat) : Bool := Nat.ble (Nat.add a 1) b
def hdL : AV → AV := (@AV.rec (fun _ => AV) (fun _ _ => .nil) (fun _ => .nil) (fun _ _ _ => .nil) (fun _ _ _ _ _ => .nil) (fun _ => .nil) (.nil) (fun h _ _ _ => h) (fun _ _ => .nil) (fun _ _ _ _ _ _ _ _ _ _ _ => .nil))
def tlL : AV → AV := (@AV.rec (fun _ => AV) (fun _ _ => .nil) (fun _ => .nil) (fun _ _ _ => .nil) (fun _ _ _ _ _ => .nil) (fun _ => .nil) (.nil) (fun _ t _ _ => t) (fun _ _ => .nil) (fun _ _ _ _ _ _ _ _ _ _ _ => .nil))
def dropL : Nat → AV → AV := @Nat.rec (fun _ => AV → AV) (fun l => l) (fun _ ih l => ih (tlL l))
def nthL (n : Nat) (l : AV) : AV := hdL (dropL n l)
def nthO (n : Nat) (l : AV) (q : AV → Out) : Out := (@AV.rec (fun _ => (AV → Out) → Out) (fun _ _ _ => .fail) (fun _ _ => .fail) (fun _ _ _ _ => .fail) (fun _ _ _ _ _ _ => .fail) (fun _ _ => .fail) (fun _ => .fail) (fun h _ _ _ q => q h) (fun _ _ _ => .fail) (fun _ _ _ _ _ _ _ _ _ _ _ _ => .fail)) (dropL n l) q
def takeO : Nat → AV → (AV → Out) → Out := @Nat.rec (fun _ => AV → (AV → Out) → Out) (fun _ q => q .nil)
  (fun _ ih => (@AV.rec (fun _ => (AV → Out) → Out) (fun _ _ _ => .fail) (fun _ _ => .fail) (fun _ _ _ _ => .fail) (fun _ _ _ _ _ _ => .fail) (fun _ _ => .fail) (fun _ => .fail) (fun h t _ _ q => ih t (fun r => q (.cons h r))) (fun _ _ _ => .fail) (fun _ _ _ _ _ _ _ _ _ _ _ _ => .fail)))
def lenIs : Nat → AV → Bool := @Nat.rec (fun _ => AV → Bool) ((@AV.rec (fun _ => Bool) (fun _ _ => false) (fun _ => false) (fun _ _ _ => false) (fun _ _ _ _ _ => false) (fun _ => false) (true) (fun _ _ _ _ => false) (fun _ _ => false) (fun _ _ _ _ _ _ _ _ _ _ _ => false))) (fun _ ih => (@AV.rec (fun _ => Bool) (fun _ _ => false) (fun _ => false) (fun _ _ _ => false) (fun _ _ _ _ _ => false) (fun _ => false) (false) (fun _ t _ _ => ih t) (fun _ _ => false) (fun _ _ _ _ _ _ _ _ _ _ _ => false)))
/-- l with all of new in the place of what stands from j on -/
def overO (new : AV) : Nat → AV → (AV → Out) → Out := @Nat.rec (fun _ => AV → (AV → Out) → Out)
  ((@AV.rec (fun _ => AV → (AV → Out) → Out) (fun _ _ _ _ => .fail) (fun _ _ _ => .fail) (fun _ _ _ _ _ => .fail) (fun _ _ _ _ _ _ _ => .fail) (fun _ _ _ => .fail) (fun l q => q l) (fun h _ _ ih2 l q => (@AV.rec (fun _ => (AV → Out) → Out) (fun _ _ _ => .fail) (fun _ _ => .fail) (fun _ _ _ _ => .fail) (fun _ _ _ _ _ _ => .fail) (fun _ _ => .fail) (fun _ => .fail) (fun _ t2 _ _ q2 => ih2 t2 (fun r => q2 (.cons h r))) (fun _ _ _ => .fail) (fun _ _ _ _ _ _ _ _ _ _ _ _ => .fail)) l q) (fun _ _ _ _ => .fail) (fun _ _ _ _ _ _ _ _ _ _ _ _ _ => .fail)) new)
  (fun _ ih => (@AV.rec (fun _ => (AV → Out) → Out) (fun _ _ _ => .fail) (fun _ _ => .fail) (fun _ _ _ _ => .fail) (fun _ _ _ _ _ _ => .fail) (fun _ _ => .fail) (fun _ => .fail) (fun h t _ _ q => ih t (fun r => q (.cons h r))) (fun _ _ _ => .fail) (fun _ _ _ _ _ _ _ _ _ _ _ _ => .fail)))
def overV (new : AV) (j : Nat) (l : AV) (q : AV → Out) : Out := overO new j l q

def aliveO (kd : Kd) (hs : HS) (x : Out) : Out := @Kd.rec (fun _ => Out) x x
  (fun own _ fam ver => @Bool.rec (fun _ => Out) (ifO (Nat.beq ver (verOf fam hs.fams)) x .fail) x own) kd
/-- the cells of an element of a block -/
def elemO (hs : HS) (b i : Nat) (q : Nat → AV → Out) : Out :=
  @AObj.rec (fun _ => HS → Nat → (Nat → AV → Out) → Out) (fun _ _ _ => .fail) (fun _ z cs _ i q => ifO (Nat.beq i 0) (q z cs) .fail)
    (fun _ z n els kd hs i q => aliveO kd hs (ifO (ltN i n) (q z (getE (pathOf i) els)) .fail))
    (fun _ _ _ _ _ => .fail) (fun _ _ _ _ _ _ _ _ _ _ _ => .fail) (fun _ _ _ _ => .fail) (fun _ _ _ _ _ _ _ => .fail) (fun _ _ _ _ _ => .fail) (getH b hs.heap) hs i q

abbrev VO := E16 → Loc → HS → (AV → Out) → Out
abbrev HO := E16 → Loc → HS → (AV → HS → Out) → Out

def vMove (x : OB) : VO := fun e L _ q => q (ev x e L)
def vStr (x : OB) : VO := fun e L _ q => (@AV.rec (fun _ => AV → (AV → Out) → Out) (fun _ _ _ _ => .fail) (fun _ _ _ => .fail) (fun _ _ _ _ _ => .fail) (fun _ _ _ _ _ _ _ => .fail) (fun _ v q => q v) (fun _ _ => .fail) (fun _ _ _ _ _ _ => .fail) (fun _ _ _ _ => .fail) (fun _ _ _ _ _ _ _ _ _ _ _ _ _ => .fail)) (ev x e L) (ev x e L) q
def vPick (c a b : OB) : VO := fun e L _ q => boolO (ev c e L) (q (ev a e L)) (q (ev b e L))
def vNilCheck (x : OB) : VO := fun e L _ q => (@AV.rec (fun _ => AV → (AV → Out) → Out) (fun _ _ _ _ => .fail) (fun _ _ _ => .fail) (fun _ _ _ v q => q v) (fun _ _ _ _ _ _ _ => .fail) (fun _ _ _ => .fail) (fun _ _ => .fail) (fun _ _ _ _ _ _ => .fail) (fun _ _ _ _ => .fail) (fun g _ _ _ _ _ _ _ _ _ _ v q => ifO (Nat.ble 6 g) (ifO (Nat.ble g 8) (q v) .fail) .fail)) (ev x e L) (ev x e L) q
def vLoad1 (x : OB) : VO := fun e L hs q => ptrO (ev x e L) fun b i j => elemO hs b i fun _ cs => nthO j cs q
def vLoadA (n : Nat) (x : OB) : VO := fun e L hs q => ptrO (ev x e L) fun b i j => elemO hs b i fun z cs =>
  ifO (Nat.beq z n) (ifO (Nat.beq j 0) (q (.agg cs)) .fail) (takeO n (dropL j cs) fun l => q (.agg l))
def vFieldAddr (off : Nat) (x : OB) : VO := fun e L _ q => ptrO (ev x e L) fun b i j => natO (Nat.add j off) fun m => q (.ptr b i m)
def vField1 (off : Nat) (x : OB) : VO := fun e L _ q => aggO (ev x e L) fun l => nthO off l q
def vFieldA (off n : Nat) (x : OB) : VO := fun e L _ q => aggO (ev x e L) fun l => takeO n (dropL off l) fun r => q (.agg r)
def vExtract (i : Nat) (x : OB) : VO := fun e L _ q => tupO (ev x e L) fun l => nthO i l q

-- whole numbers
def zAdd : Int → Int → Int := @Int.rec (fun _ => Int → Int) (fun a => @Int.rec (fun _ => Int) (fun b => .ofNat (Nat.add a b)) (fun b => Int.subNatNat a (Nat.succ b)))
  (fun a => @Int.rec (fun _ => Int) (fun b => Int.subNatNat b (Nat.succ a)) (fun b => .negSucc (Nat.succ (Nat.add a b))))
def zNeg : Int → Int := @Int.rec (fun _ => Int) (fun a => @Nat.rec (fun _ => Int) (.ofNat 0) (fun m _ => .negSucc m) a) (fun a => .ofNat (Nat.succ a))
def zSub (a b : Int) : Int := zAdd a (zNeg b)
def zLt : Int → Int → Bool := @Int.rec (fun _ => Int → Bool) (fun a => @Int.rec (fun _ => Bool) (fun b => ltN a b) (fun _ => false))
  (fun a => @Int.rec (fun _ => Bool) (fun _ => true) (fun b => ltN b a))
def zEq : Int → Int → Bool := @Int.rec (fun _ => Int → Bool) (fun a => @Int.rec (fun _ => Bool) (fun b => Nat.beq a b) (fun _ => false))
  (fun a => @Int.rec (fun _ => Bool) (fun _ => false) (fun b => Nat.beq a b))
/-- of the kind i64: as it is, if it fits, reckoned; else by the model's own words -/
def i64O (n : Int) (q : Int → Out) : Out := @Int.rec (fun _ => Out)
  (fun a => ifO (Nat.ble a 9223372036854775807) (natO a fun m => q (.ofNat m)) (q (IntKind.i64.wrap (.ofNat a))))
  (fun a => ifO (Nat.ble a 9223372036854775807) (natO a fun m => q (.negSucc m)) (q (IntKind.i64.wrap (.negSucc a)))) n
def wrapO : IntKind → Int → (Int → Out) → Out := @IntKind.rec (fun _ => Int → (Int → Out) → Out)
  (fun n q => q (IntKind.i8.wrap n)) (fun n q => q (IntKind.i16.wrap n)) (fun n q => q (IntKind.i32.wrap n)) i64O
  (fun n q => q (IntKind.u8.wrap n)) (fun n q => q (IntKind.u16.wrap n)) (fun n q => q (IntKind.u32.wrap n)) (fun n q => q (IntKind.u64.wrap n))
def kno : IntKind → Nat := @IntKind.rec (fun _ => Nat) 0 1 2 3 4 5 6 7
def sameK (a b : IntKind) : Bool := Nat.beq (kno a) (kno b)
def int2O (x y : AV) (q : IntKind → Int → Int → Out) : Out := intO x fun k a => intO y fun k' b => ifO (sameK k k') (q k a b) .fail
def notB : Bool → Bool := @Bool.rec (fun _ => Bool) true false
def vAdd (x y : OB) : VO := fun e L _ q => int2O (ev x e L) (ev y e L) fun k a b => wrapO k (zAdd a b) fun n => q (.int k n)
def vSub (x y : OB) : VO := fun e L _ q => int2O (ev x e L) (ev y e L) fun k a b => wrapO k (zSub a b) fun n => q (.int k n)
def vLss (x y : OB) : VO := fun e L _ q => int2O (ev x e L) (ev y e L) fun _ a b => q (.bool (zLt a b))
def vGtr (x y : OB) : VO := fun e L _ q => int2O (ev x e L) (ev y e L) fun _ a b => q (.bool (zLt b a))
def vLeq (x y : OB) : VO := fun e L _ q => int2O (ev x e L) (ev y e L) fun _ a b => q (.bool (notB (zLt b a)))
def vGeq (x y : OB) : VO := fun e L _ q => int2O (ev x e L) (ev y e L) fun _ a b => q (.bool (notB (zLt a b)))
def vNot (x : OB) : VO := fun e L _ q => (@AV.rec (fun _ => (AV → Out) → Out) (fun _ _ _ => .fail) (fun b q => q (.bool (notB b))) (fun _ _ _ _ => .fail) (fun _ _ _ _ _ _ => .fail) (fun _ _ => .fail) (fun _ => .fail) (fun _ _ _ _ _ => .fail) (fun _ _ _ => .fail) (fun _ _ _ _ _ _ _ _ _ _ _ _ => .fail)) (ev x e L) q

-- slices and strings
def vLenS (x : OB) : VO := fun e L _ q => (@AV.rec (fun _ => (AV → Out) → Out) (fun _ _ _ => .fail) (fun _ _ => .fail) (fun _ _ _ _ => .fail) (fun _ _ _ _ _ _ => .fail) (fun s q => q (.int .i64 (.ofNat s.length))) (fun _ => .fail) (fun _ _ _ _ _ => .fail) (fun _ _ _ => .fail) (fun _ _ _ _ _ _ _ _ _ _ _ _ => .fail)) (ev x e L) q
def vLen (x : OB) : VO := fun e L _ q => (@AV.rec (fun _ => (AV → Out) → Out) (fun _ _ _ => .fail) (fun _ _ => .fail) (fun _ _ _ _ => .fail) (fun _ _ l _ _ q => q (.int .i64 (.ofNat l))) (fun _ _ => .fail) (fun _ => .fail) (fun _ _ _ _ _ => .fail) (fun _ _ _ => .fail) (fun g _ _ _ _ e _ _ _ _ _ q => ifO (Nat.beq g 1) (q (.int .i64 (.ofNat 0))) (ifO (Nat.beq g 11) (q (.int .i64 (.ofNat 0))) (ifO (Nat.beq g 12) (q (.int .i64 (.ofNat e))) .fail)))) (ev x e L) q
/-- an index below n -/
def idxO (x : AV) (n : Nat) (q : Nat → Out) : Out := intO x fun _ z => @Int.rec (fun _ => Out) (fun a => ifO (ltN a n) (q a) .fail) (fun _ => .fail) z
def vIdxAddr (zz : Nat) (x i : OB) : VO := fun e L hs q => (@AV.rec (fun _ => AV → HS → (AV → Out) → Out) (fun _ _ _ _ _ => .fail) (fun _ _ _ _ => .fail) (fun _ _ _ _ _ _ => .fail) (fun b i0 l _ _ i hs q => idxO i l fun a => natO (Nat.add i0 a) fun m => elemO hs b m fun z _ => ifO (Nat.beq z zz) (q (.ptr b m 0)) .fail) (fun _ _ _ _ => .fail) (fun _ _ _ => .fail) (fun _ _ _ _ _ _ _ => .fail) (fun _ _ _ _ _ => .fail) (fun g b i0 j z l _ _ _ _ _ i _ q => ifO (Nat.beq g 12) (ifO (Nat.beq z zz) (idxO i l fun a => natO (Nat.add j (Nat.mul a z)) fun m => q (.ptr b i0 m)) .fail) .fail)) (ev x e L) (ev i e L) hs q
def vIdxAddrA (n z : Nat) (x i : OB) : VO := fun e L _ q => ptrO (ev x e L) fun b i0 j => idxO (ev i e L) n fun a => natO (Nat.add j (Nat.mul a z)) fun m => q (.ptr b i0 m)
def nthS : Nat → List Nat → (Nat → Out) → Out := @Nat.rec (fun _ => List Nat → (Nat → Out) → Out) (@List.rec Nat (fun _ => (Nat → Out) → Out) (fun _ => .fail) (fun h _ _ q => q h))
  (fun _ ih => @List.rec Nat (fun _ => (Nat → Out) → Out) (fun _ => .fail) (fun _ t _ => ih t))
def vIdxStr (x i : OB) : VO := fun e L _ q => intO (ev i e L) fun _ z => @Int.rec (fun _ => Out) (fun a => (@AV.rec (fun _ => (AV → Out) → Out) (fun _ _ _ => .fail) (fun _ _ => .fail) (fun _ _ _ _ => .fail) (fun _ _ _ _ _ _ => .fail) (fun s q => nthS a s fun c => q (.int .u8 (.ofNat (Nat.mod c 256)))) (fun _ => .fail) (fun _ _ _ _ _ => .fail) (fun _ _ _ => .fail) (fun _ _ _ _ _ _ _ _ _ _ _ _ => .fail)) (ev x e L) q) (fun _ => .fail) z

-- memory
def allocO : AObj → HS → (Nat → HS → Out) → Out := fun o => @HS.rec (fun _ => (Nat → HS → Out) → Out) fun heap next fams q => natO next fun m => ifO (Nat.ble m 1000000) (q m (.mk (setH m o heap) (Nat.succ m) fams)) .fail
def hAlloc (elem sz : Nat) (cs : AV) : HO := fun _ _ hs q => allocO (.var elem sz cs) hs fun b hs' => q (.ptr b 0 0) hs'
def hBox (elem sz : Nat) (x : OB) : HO := fun e L hs q => ifO (lenIs sz (cellsV (ev x e L))) (allocO (.var elem sz (cellsV (ev x e L))) hs fun b hs' => q (.ptr b 0 0) hs') .fail
def stKd (kd : Kd) (elem z n : Nat) (els : Env) (hs : HS) (b : Nat) (q : AV → HS → Out) : Out :=
  @Kd.rec (fun _ => Out) (q undef (hs.put b (.cells elem z n els .ex))) .fail
    (fun own sh fam ver => @Bool.rec (fun _ => Out) .fail
      (@Bool.rec (fun _ => Out) (q undef (hs.put b (.cells elem z n els (.opn true false fam ver))))
        (natO (Nat.add ver 1) fun v => q undef ((hs.put b (.cells elem z n els (.opn true false fam v))).bump fam v)) sh) own) kd
def storeO (hs : HS) (b i j : Nat) (l : AV) (q : AV → HS → Out) : Out :=
  @AObj.rec (fun _ => HS → Nat → Nat → Nat → AV → (AV → HS → Out) → Out)
    (fun _ _ _ _ _ _ => .fail)
    (fun elem z cs hs b i j l q => ifO (Nat.beq i 0) (overO l j cs fun cs' => q undef (hs.put b (.var elem z cs'))) .fail)
    (fun elem z n els kd hs b i j l q => ifO (ltN i n) (overO l j (getE (pathOf i) els) fun cs => stKd kd elem z n (setE (pathOf i) cs els) hs b q) .fail)
    (fun _ _ _ _ _ _ _ _ => .fail) (fun _ _ _ _ _ _ _ _ _ _ _ _ _ _ => .fail) (fun _ _ _ _ _ _ _ => .fail) (fun _ _ _ _ _ _ _ _ _ _ => .fail) (fun _ _ _ _ _ _ _ _ => .fail)
    (getH b hs.heap) hs b i j l q
def hStore (sz : Nat) (a x : OB) : HO := fun e L hs q => ptrO (ev a e L) fun b i j => ifO (lenIs sz (cellsV (ev x e L))) (storeO hs b i j (cellsV (ev x e L)) q) .fail

-- seldom ones, in plain words
def lst : AV → List AV
  | .cons h t => h :: lst t
  | _ => []
def unl : List AV → AV
  | [] => .nil
  | h :: t => .cons h (unl t)

def hSlow (g : E16 → Loc → HS → Option (AV × HS)) : HO := fun e L hs q => @HS.rec (fun _ => Out) (fun h n f => natO n fun m => ifO (Nat.ble m 1000000) (match g e L (.mk h m f) with | some (v, hs2) => q v hs2 | none => .fail) .fail) hs
def vSlow (g : E16 → Loc → HS → Option AV) : VO := fun e L hs q => match g e L hs with | some v => q v | none => .fail

mutual
def ofValue : Value → AV
  | .bool b => .bool b
  | .int k n => .int k n
  | .string s => .str (s.data.toList.map (·.toNat))
  | .pointer none => vNilp
  | .slice none 0 0 => vNils
  | .map none => vNilm
  | .nilFunc => vNilf
  | .nilIface => vNili
  | .iface t v => vIface t (ofValue v)
  | .agg ⟨cs⟩ => .agg (ofValues cs)
  | .tuple ⟨cs⟩ => vTup (ofValues cs)
  | _ => .nil
def ofValues : List Value → AV
  | [] => .nil
  | v :: vs => .cons (ofValue v) (ofValues vs)
end

/-- a value of one cell -/
def oneB : AV → Bool
  | .agg _ | .nil | .cons _ _ => false
  | .oth g .. => !(Nat.beq g 10)
  | _ => true
-- a value without addresses, as the model has it
mutual
def plain : AV → Option Value
  | .int k n => some (.int k n)
  | .bool b => some (.bool b)
  | .str s => some (.string ⟨(s.map UInt8.ofNat).toArray⟩)
  | .agg l => (plains l).map fun cs => .agg cs.toArray
  | .oth 0 .. => some (.pointer none)
  | .oth 1 .. => some (.slice none 0 0)
  | .oth 2 .. => some (.map none)
  | .oth 3 .. => some .nilFunc
  | .oth 4 .. => some .nilIface
  | .oth 8 t _ _ _ _ _ x _ => (plain x).map fun v => .iface t v
  | .oth 10 _ _ _ _ _ _ x _ => (plains x).map fun cs => .tuple cs.toArray
  | _ => none
def plains : AV → Option (List Value)
  | .nil => some []
  | .cons h t => (plain h).bind fun v => (plains t).map fun vs => v :: vs
  | _ => none
end
-- a value without addresses, whole
mutual
def pureV : AV → Bool
  | .int _ _ | .bool _ | .str _ => true
  | .agg l => pureC l
  | .oth g a b c d e f x y => match g with
    | 0 | 1 | 2 | 3 | 4 => true
    | 8 => pureV x
    | 10 => pureL x
    | _ => false
  | _ => false
def pureL : AV → Bool
  | .nil => true
  | .cons h t => pureV h && pureL t
  | _ => false
def pureC : AV → Bool
  | .nil => true
  | .cons h t => oneB h && pureV h && pureC t
  | _ => false
end
def back (v : Value) : Option AV := if pureV (ofValue v) then some (ofValue v) else none

-- tables, looked up fast: behind every sixteenth row stands a list of its own
def tl1 {α : Type} : List α → List α := @List.rec α (fun _ => List α) [] (fun _ t _ => t)
def hd1 {α : Type} : List α → Option α := @List.rec α (fun _ => Option α) none (fun h _ _ => some h)
def drop16 {α : Type} (l : List α) : List α := tl1 (tl1 (tl1 (tl1 (tl1 (tl1 (tl1 (tl1 (tl1 (tl1 (tl1 (tl1 (tl1 (tl1 (tl1 (tl1 l)))))))))))))))
def chunk {α : Type} (l : List α) : Nat → List α := @Nat.rec (fun _ => List α) l (fun _ ih => drop16 ih)
def dropN {α : Type} : Nat → List α → List α := @Nat.rec (fun _ => List α → List α) (fun l => l) (fun _ ih l => ih (tl1 l))
def fget {α : Type} (l : List α) (n : Nat) : Option α := hd1 (dropN (Nat.mod n 16) (chunk l (Nat.div n 16)))
def fnAt (P : Program) (f : Nat) : Option Func := fget P.funcs.toList f
def infoT (P : Program) (t : Nat) : Option TypeInfo := if ltN t P.types.size then fget P.types.toList t else P.info? t
def und (P : Program) (t : Nat) : Option TypeDesc := match infoT P t with
  | some { desc := .named _ u, .. } => (infoT P u).map (·.desc)
  | some i => some i.desc
  | none => none
def csz (P : Program) (t : Nat) : Nat := ((infoT P t).map (·.size)).getD 0
section
variable (P : Program)
def pureEval {α : Type} : Sem α → Option α
  | .pure a => some a
  | .program k => pureEval (k P)
  | _ => none

def aggQ (t : TypeId) : Option Bool := match und P t with | some (.struct _) | some (.array _ _) => some true | some _ => some false | none => none
def zeroV (t : TypeId) : AV := match infoT P t with | some i => (match i.zero with | some v => ofValue v | none => .nil) | none => .nil
def zeroP (t : TypeId) : Option AV := if pureV (zeroV P t) then some (zeroV P t) else none
def zeroC (t : TypeId) : AV := cellsV (zeroV P t)
def fieldOf (s : TypeId) (f : Nat) : Option Field := match und P s with | some (.struct fs) => fs[f]? | _ => none
def elemOf (t : TypeId) : Option TypeId := match und P t with | some (.slice e) => some e | _ => none

-- equality
def strEq : List Nat → List Nat → Bool
  | [], [] => true
  | a :: s, b :: t => Nat.beq (a % 256) (b % 256) && strEq s t
  | _, _ => false
/-- what is compared: 0 pointers, 1 slices, 2 maps, 3 functions, 4 interfaces -/
def eqCls (t : TypeId) : Nat := match und P t with
  | some (.pointer e) => if Nat.beq (csz P e) 0 then 9 else 0
  | some (.slice _) => 1
  | some (.map _ _) => 2
  | some (.func _ _ _) => 3
  | some (.interface _) => 4
  | _ => 9
/-- against nil, or two pointers into one element -/
def eqPtr (a b : AV) : Option Bool := match a, b with
  | .oth 0 .., .oth 0 .. => some true
  | .oth 0 .., .ptr .. | .ptr .., .oth 0 .. => some false
  | .ptr b1 i1 j1, .ptr b2 i2 j2 => if b1 = b2 ∧ i1 = i2 then some (decide (j1 = j2)) else none
  | _, _ => none
def eqSl (a b : AV) : Option Bool := match a, b with
  | .oth 1 .., .oth 1 .. => some true
  | .oth 1 .., .sl .. | .sl .., .oth 1 .. | .oth 1 .., .oth 11 .. | .oth 11 .., .oth 1 .. | .oth 1 .., .oth 12 .. | .oth 12 .., .oth 1 .. => some false
  | _, _ => none
def eqMap (a b : AV) : Option Bool := match a, b with
  | .oth 2 .., .oth 2 .. => some true
  | .oth 2 .., .oth 5 .. | .oth 5 .., .oth 2 .. => some false
  | _, _ => none
def eqFn (a b : AV) : Option Bool := match a, b with
  | .oth 3 .., .oth 3 .. => some true
  | .oth 3 .., .oth 6 .. | .oth 6 .., .oth 3 .. | .oth 3 .., .oth 7 .. | .oth 7 .., .oth 3 .. => some false
  | _, _ => none
def eqIf (a b : AV) : Option Bool := match a, b with
  | .oth 4 .., .oth 8 .. | .oth 8 .., .oth 4 .. => some false
  | _, _ => none
def eqNil (c : Nat) (a b : AV) : Option Bool := match c with
  | 0 => eqPtr a b
  | 1 => eqSl a b
  | 2 => eqMap a b
  | 3 => eqFn a b
  | 4 => eqIf a b
  | _ => none
def binGen (op : BinOp) (t : TypeId) (x y : Operand) (a b : AV) : Option AV := do
  let va ← plain a
  let vb ← plain b
  let r ← pureEval P (do eqGuard op t x y va vb; Go.binOp op t va vb)
  back r
def eqSlow (c : Nat) (op : BinOp) (t : TypeId) (x y : Operand) (a b : AV) (flip : Bool) : Option AV :=
  match eqNil c a b with
  | some r => some (.bool (r != flip))
  | none => binGen P op t x y a b
def optO (o : Option AV) (q : AV → Out) : Out := match o with | some v => q v | none => .fail
def vEq (c : Nat) (flip : Bool) (op : BinOp) (t : TypeId) (xo yo : Operand) (x y : OB) : VO := fun e L _ q =>
  (@AV.rec (fun _ => AV → AV → Bool → (AV → Out) → Out) (fun k a _ v flip q => (@AV.rec (fun _ => Bool → (AV → Out) → Out) (fun k2 b flip2 q2 => ifO (sameK k k2) (q2 (.bool (@Bool.rec (fun _ => Bool) (zEq a b) (notB (zEq a b)) flip2))) .fail) (fun _ _ _ => .fail) (fun _ _ _ _ _ => .fail) (fun _ _ _ _ _ _ _ => .fail) (fun _ _ _ => .fail) (fun _ _ => .fail) (fun _ _ _ _ _ _ => .fail) (fun _ _ _ _ => .fail) (fun _ _ _ _ _ _ _ _ _ _ _ _ _ => .fail)) v flip q) (fun _ u v flip q => optO (eqSlow P c op t xo yo u v flip) q) (fun _ _ _ u v flip q => optO (eqSlow P c op t xo yo u v flip) q) (fun _ _ _ _ _ u v flip q => optO (eqSlow P c op t xo yo u v flip) q) (fun s _ v flip q => (@AV.rec (fun _ => Bool → (AV → Out) → Out) (fun _ _ _ _ => .fail) (fun _ _ _ => .fail) (fun _ _ _ _ _ => .fail) (fun _ _ _ _ _ _ _ => .fail) (fun s2 flip2 q2 => q2 (.bool (@Bool.rec (fun _ => Bool) (strEq s s2) (notB (strEq s s2)) flip2))) (fun _ _ => .fail) (fun _ _ _ _ _ _ => .fail) (fun _ _ _ _ => .fail) (fun _ _ _ _ _ _ _ _ _ _ _ _ _ => .fail)) v flip q) (fun u v flip q => optO (eqSlow P c op t xo yo u v flip) q) (fun _ _ _ _ u v flip q => optO (eqSlow P c op t xo yo u v flip) q) (fun _ _ u v flip q => optO (eqSlow P c op t xo yo u v flip) q) (fun _ _ _ _ _ _ _ _ _ _ _ u v flip q => optO (eqSlow P c op t xo yo u v flip) q)) (ev x e L) (ev x e L) (ev y e L) flip q

inductive PL where | nil | cons (off sz : Nat) (x : OB) (t : PL)
def buildO : PL → E16 → Loc → AV → (AV → Out) → Out := @PL.rec (fun _ => E16 → Loc → AV → (AV → Out) → Out) (fun _ _ acc q => q acc)
  (fun off sz x _ ih e L acc q => ifO (lenIs sz (cellsV (ev x e L))) (overO (cellsV (ev x e L)) off acc fun acc' => ih e L acc' q) .fail)
def vBuild (zero : AV) (ps : PL) : VO := fun e L _ q => buildO ps e L zero fun cs => q (.agg cs)

inductive OL where | nil | cons (x : OB) (t : OL)
def evL : OL → E16 → Loc → AV := @OL.rec (fun _ => E16 → Loc → AV) (fun _ _ => .nil) (fun x _ ih e L => .cons (ev x e L) (ih e L))

def HS.new (o : AObj) : HS → Nat × HS
  | .mk h n f => (n, .mk (setH n o h) (n + 1) f)
def setMany (els : Env) (i : Nat) : List AV → Env
  | [] => els
  | c :: cs => setMany (setE (pathOf i) c els) (i + 1) cs
def lenB (sz : Nat) (cs : AV) : Bool := lenIs sz cs
def alive (kd : Kd) (hs : HS) : Bool := match kd with
  | .opn false _ fam ver => Nat.beq ver (verOf fam hs.fams)
  | _ => true

def strideB (z : Nat) (x : AV) (hs : HS) : Bool := match x with
  | .oth 1 .. => true
  | .oth 11 .. => true
  | .oth 12 _ _ _ z' _ _ _ _ => Nat.beq z' z
  | .sl b _ _ _ _ => match getH b hs.heap with
    | .cells _ z' _ _ kd => Nat.beq z' z && alive kd hs
    | _ => false
  | _ => false
/-- the elements of a slice (or the bytes of a string): each a list of cells -/
def elemsOf (x : AV) (hs : HS) : Option (List AV) := match x with
  | .oth 1 .. | .oth 11 .. => some []
  | .sl b i l _ _ => match getH b hs.heap with
    | .cells _ _ n els kd => if alive kd hs && Nat.ble (i + l) n then some ((List.range l).map fun k => getE (pathOf (i + k)) els) else none
    | _ => none
  | .oth 12 b i j z l _ _ _ => match getH b hs.heap with
    | .var _ _ cs => if i = 0 && Nat.ble (j + l * z) (lst cs).length then some ((List.range l).map fun k => unl (((lst cs).drop (j + k * z)).take z)) else none
    | _ => none
  | .str s => some (s.map fun c => .cons (.int .u8 (.ofNat (c % 256))) .nil)
  | _ => none
def lenOf (x : AV) : Option Nat := match x with
  | .oth 1 .. | .oth 11 .. => some 0
  | .sl _ _ l _ _ => some l
  | .oth 12 _ _ _ _ l _ _ _ => some l
  | .str s => some s.length
  | _ => none

/-- a grown slice: its memory is new, or the old, if that has room -/
def grown (elem sz : Nat) (els : Env) (n fam ver : Nat) (sh : Bool) (hs : HS) : AV × HS :=
  let (b, hs) := hs.new (.cells elem sz n els (.opn true sh fam ver))
  (.sl b 0 n 0 true, hs)
/-- one whose memory is surely new -/
def grownNew (elem sz : Nat) (els : Env) (n : Nat) (hs : HS) : AV × HS := match hs with
  | .mk h b f => (.sl b 0 n 0 true, .mk (setH b (.cells elem sz n els (.opn true false b 0)) h) (b + 1) f)
def elemB (elem : Nat) (x : AV) (hs : HS) : Bool := match x with
  | .sl b _ _ _ _ => (match getH b hs.heap with | .cells el _ _ _ _ => Nat.beq el elem | _ => false)
  | .oth 11 b .. => (match getH b hs.heap with | .cells el _ _ _ _ => Nat.beq el elem | _ => true)
  | _ => true
def lenS (x : AV) : Nat := match x with | .sl _ _ l _ _ => l | .oth 12 _ _ _ _ l _ _ _ => l | _ => 0
def appendTo (elem sz : Nat) (s : AV) (new : List AV) (hs : HS) : Option (AV × HS) :=
  let k := new.length
  if k = 0 then (match s with | .oth 1 .. | .oth 11 .. | .sl .. | .oth 12 .. => some (s, hs) | _ => none) else
  match s with
  | .oth 1 .. => some (grownNew elem sz (setMany .nil 0 new) k hs)
  | .oth 11 b _ i1 _ clip _ _ _ =>
    if clip = 1 then some (grownNew elem sz (setMany .nil 0 new) k hs) else
    match getH b hs.heap with
    | .cells el z n els (.opn true _ fam ver) =>
      if i1 = n && Nat.beq z sz then some (grown elem sz (setMany .nil 0 new) k fam ver true (hs.put b (.cells el z n els (.opn false true fam ver)))) else none
    | _ => none
  | .sl b i l c o =>
    if o then
      match getH b hs.heap with
      | .cells el z n els (.opn true _ fam ver) =>
        if i + l = n then
          if i = 0 then some (grown elem sz (setMany els n new) (l + k) fam ver true (hs.put b (.cells el z n els (.opn false true fam ver))))
          else (elemsOf s hs).map fun old => grown elem sz (setMany .nil 0 (old ++ new)) (l + k) fam ver true (hs.put b (.cells el z n els (.opn false true fam ver)))
        else if Nat.ble (i + l + k) n then none
        else
          -- it ends ahead of what is known: the old memory is lost
          (elemsOf s hs).map fun old => grown elem sz (setMany .nil 0 (old ++ new)) (l + k) fam (ver + 1) false ((hs.put b .dead).bump fam (ver + 1))
      | _ => none
    else if Nat.ble (l + k) c then
      match getH b hs.heap with
      | .cells el z n els .ex => if Nat.ble (i + l + k) n then some (.sl b i (l + k) c false, hs.put b (.cells el z n (setMany els (i + l) new) .ex)) else none
      | _ => none
    else (elemsOf s hs).map fun old => grownNew elem sz (setMany .nil 0 (old ++ new)) (l + k) hs
  | .oth 12 _ _ _ _ l c _ _ => if Nat.ble (l + k) c then none else (elemsOf s hs).map fun old => grownNew elem sz (setMany .nil 0 (old ++ new)) (l + k) hs
  | _ => none
def asNat (x : AV) : Option Nat := match x with | .int _ (.ofNat n) => some n | _ => none
def sAppend (elem sz : Nat) (s x : OB) : E16 → Loc → HS → Option (AV × HS) := fun e L hs =>
  match elemsOf (ev x e L) hs with
  | some new => if new.all (lenB sz) && strideB sz (ev s e L) hs && elemB elem (ev s e L) hs && Nat.ble (lenS (ev s e L) + new.length) 1000000 then appendTo elem sz (ev s e L) new hs else none
  | none => none

def sBuildSlice (elem sz len : Nat) (zero : AV) (ps : List (Nat × OB)) : E16 → Loc → HS → Option (AV × HS) := fun e L hs =>
  let els := ps.foldl (fun (l : List AV) p => l.set p.1 (cellsV (ev p.2 e L))) (List.replicate len zero)
  if lenB sz zero && ps.all (fun p => ltN p.1 len && lenB sz (cellsV (ev p.2 e L))) && Nat.ble (len * sz) 16777216 then
    let (b, hs) := hs.new (.cells elem sz len (setMany .nil 0 els) .ex)
    some (.sl b 0 len len false, hs)
  else none
def sMakeSlice (elem sz : Nat) (zero : AV) (l c : OB) : E16 → Loc → HS → Option (AV × HS) := fun e L hs =>
  match asNat (ev l e L), asNat (ev c e L) with
  | some l, some c => if Nat.ble l c && Nat.ble c 100000 && lenB sz zero then
      let (b, hs) := hs.new (.cells elem sz c (setMany .nil 0 (List.replicate c zero)) .ex)
      some (.sl b 0 l c false, hs)
    else none
  | _, _ => none

def bound (x : Option AV) (y d : Nat) : Option Nat := match x with
  | none => some d
  | some v => match asNat v with | some n => if Nat.ble n y then some n else none | none => none
def sSliceStr (x lo hi : Option AV) : Option AV := match x with
  | some (.str s) => do
    let h ← bound hi s.length s.length
    let l ← bound lo h 0
    some (.str ((s.take h).drop l))
  | _ => none
def sSlice (x : AV) (lo hi mx : Option AV) : Option AV := match x with
  | .oth 1 .. => do
    let m ← bound mx 0 0
    let h ← bound hi m 0
    let _ ← bound lo h 0
    some vNils
  | .oth 11 b i0 i1 k clip _ _ _ => do
    let m ← bound mx 0 0
    let h ← bound hi m 0
    let _ ← bound lo h 0
    some (vSlz b i0 i1 k (if mx.isSome then 1 else clip))
  | .oth 12 b i j z l c _ _ => do
    let m ← bound mx c c
    let h ← bound hi m l
    let w ← bound lo h 0
    some (vSla b i (if m = w then j else j + w * z) z (h - w) (m - w))
  | .sl b i l c false => do
    let m ← bound mx c c
    let h ← bound hi m l
    let w ← bound lo h 0
    some (.sl b (if m = w then i else i + w) (h - w) (m - w) false)
  | .sl b i l k true => match mx with
    | some _ => do
      let m ← bound mx l l
      let _ ← hi
      let h ← bound hi m l
      let w ← bound lo h 0
      some (.sl b (if m = w then i else i + w) (h - w) (m - w) false)
    | none => do
      let h ← bound hi l l
      let w ← bound lo h 0
      if Nat.beq w l then (if Nat.beq l 0 then none else some (vSlz b i (i + w) (k + w) 0)) else some (.sl b (i + w) (h - w) (k + w) true)
  | _ => none
def evM (x : Option OB) (e : E16) (L : Loc) : Option AV := x.map fun x => ev x e L
def sSliceOf (z : Nat) (x : OB) (lo hi mx : Option OB) : E16 → Loc → HS → Option AV := fun e L hs => if strideB z (ev x e L) hs then sSlice (ev x e L) (evM lo e L) (evM hi e L) (evM mx e L) else none
def sSliceS (x : OB) (lo hi : Option OB) : E16 → Loc → HS → Option AV := fun e L _ => sSliceStr (some (ev x e L)) (evM lo e L) (evM hi e L)
def sSliceArr (n z : Nat) (x : OB) (lo hi mx : Option OB) : E16 → Loc → HS → Option AV := fun e L _ => match ev x e L with
  | .ptr b i j => sSlice (vSla b i j z n n) (evM lo e L) (evM hi e L) (evM mx e L)
  | _ => none
def sIdxAgg (n z : Nat) (ag : Bool) (x i : OB) : E16 → Loc → HS → Option AV := fun e L _ => match ev x e L, asNat (ev i e L) with
  | .agg cs, some a => if ltN a n && Nat.ble (a * z + z) (lst cs).length then (if ag then some (.agg (unl (((lst cs).drop (a * z)).take z))) else (lst cs)[a * z]?) else none
  | _, _ => none

-- maps
def keyEq : AV → AV → Option Bool
  | .int k a, .int k' b => if sameK k k' then some (zEq a b) else none
  | .str a, .str b => some (strEq a b)
  | .bool a, .bool b => some (a == b)
  | _, _ => none
/-- the kind of a map's keys: 1 ints, 2 strings, 3 bools -/
def keyCls (t : TypeId) : Nat := match und P t with
  | some (.map k _) => (match und P k with | some (.int _) => 1 | some .string => 2 | some .bool => 3 | _ => 0)
  | _ => 0
def keyIs (c : Nat) (k : AV) : Bool := match k with
  | .int .. => Nat.beq c 1
  | .str _ => Nat.beq c 2
  | .bool _ => Nat.beq c 3
  | _ => false
def findM (k : AV) : ML → Option (Option (AV × Nat))
  | .nil => some none
  | .cons k' v born t => match keyEq k k' with
    | some true => some (some (v, born))
    | some false => findM k t
    | none => none
def setM (k v : AV) : ML → ML
  | .nil => .nil
  | .cons k' v' born t => if (keyEq k k') == some true then .cons k v born t else .cons k' v' born (setM k v t)
def setBorn (n : Nat) (v : AV) : ML → ML
  | .nil => .nil
  | .cons k' v' born t => if Nat.beq born n then .cons k' v born t else .cons k' v' born (setBorn n v t)
def hasBorn (n : Nat) : ML → Bool
  | .nil => false
  | .cons _ _ born t => Nat.beq born n || hasBorn n t
def delM (k : AV) : ML → ML
  | .nil => .nil
  | .cons k' v' born t => if (keyEq k k') == some true then t else .cons k' v' born (delM k t)
def pushM (k v : AV) (born : Nat) : ML → ML
  | .nil => .cons k v born .nil
  | .cons k' v' b t => .cons k' v' b (pushM k v born t)
def lenM : ML → Nat
  | .nil => 0
  | .cons _ _ _ t => lenM t + 1
def mapEs (hs : HS) (x : AV) : Option ML := match x with
  | .oth 2 .. => some .nil
  | .oth 5 r .. => match getH r hs.heap with | .map es _ => some es | _ => none
  | _ => none
def sLookup (c : Nat) (zero : AV) (ok : Bool) (x i : OB) : E16 → Loc → HS → Option AV := fun e L hs =>
  if keyIs c (ev i e L) then match (mapEs hs (ev x e L)).bind (findM (ev i e L)) with
  | some (some (v, _)) => some (if ok then vTup (unl [v, .bool true]) else v)
  | some none => some (if ok then vTup (unl [zero, .bool false]) else zero)
  | none => none
  else none
def sMapUpdate (c : Nat) (m k v : OB) : E16 → Loc → HS → Option (AV × HS) := fun e L hs => if keyIs c (ev k e L) then match ev m e L with
  | .oth 5 r .. => match getH r hs.heap with
    | .map es clock => match findM (ev k e L) es with
      | some (some _) => some (undef, hs.put r (.map (setM (ev k e L) (ev v e L) es) clock))
      | some none => some (undef, hs.put r (.map (pushM (ev k e L) (ev v e L) clock es) (clock + 1)))
      | none => none
    | _ => none
  | _ => none
  else none
def sMapEntry (c : Nat) (zero : AV) (m k : OB) : E16 → Loc → HS → Option (AV × HS) := fun e L hs => if keyIs c (ev k e L) then match ev m e L with
  | .oth 5 r .. => match getH r hs.heap with
    | .map es clock => match findM (ev k e L) es with
      | some (some (v, born)) => some (vTup (unl [v, .int .i64 (.ofNat born)]), hs)
      | some none => some (vTup (unl [zero, .int .i64 (.ofNat clock)]), hs.put r (.map (pushM (ev k e L) zero clock es) (clock + 1)))
      | none => none
    | _ => none
  | _ => none
  else none
def sEntryStore (m s v : OB) : E16 → Loc → HS → Option (AV × HS) := fun e L hs => match ev m e L, asNat (ev s e L) with
  | .oth 5 r .., some born => match getH r hs.heap with
    | .map es clock => if hasBorn born es then some (undef, hs.put r (.map (setBorn born (ev v e L) es) clock)) else none
    | _ => none
  | _, _ => none
def sMakeMap : E16 → Loc → HS → Option (AV × HS) := fun _ _ hs => let (b, hs) := hs.new (.map .nil 0); some (vMap b, hs)
def sDelete (c : Nat) (m k : OB) : E16 → Loc → HS → Option (AV × HS) := fun e L hs => if keyIs c (ev k e L) then match ev m e L with
  | .oth 2 .. => some (undef, hs)
  | .oth 5 r .. => match getH r hs.heap with
    | .map es clock => match findM (ev k e L) es with
      | some (some _) => some (undef, hs.put r (.map (delM (ev k e L) es) clock))
      | some none => some (undef, hs)
      | none => none
    | _ => none
  | _ => none
  else none
def sLenMap (x : OB) : E16 → Loc → HS → Option AV := fun e L hs => match ev x e L with
  | .oth 2 .. => some (.int .i64 (.ofNat 0))
  | .oth 5 r .. => match getH r hs.heap with | .map es _ => some (.int .i64 (.ofNat (lenM es))) | _ => none
  | _ => none
def sRange (isStr : Bool) (x : OB) : E16 → Loc → HS → Option (AV × HS) := fun e L hs => match ev x e L with
  | .oth 2 .. => if isStr then none else let (b, hs) := hs.new (.mapIter none 0 [] 0); some (.ptr b 0 0, hs)
  | .oth 5 m .. => if isStr then none else match getH m hs.heap with
    | .map _ clock => let (b, hs) := hs.new (.mapIter (some m) clock [] clock); some (.ptr b 0 0, hs)
    | _ => none
  | .str s => if isStr then let (b, hs) := hs.new (.strIter s 0); some (.ptr b 0 0, hs) else none
  | _ => none
def entriesM : ML → List (AV × AV × Nat)
  | .nil => []
  | .cons k v b t => (k, v, b) :: entriesM t
def sNext (any isStr : Bool) (x : OB) : E16 → Loc → HS → Option (AV × HS) := fun e L hs => match ev x e L with
  | .ptr r 0 0 => match getH r hs.heap with
    | .mapIter none _ _ _ => if isStr then none else some (vTup (unl [.bool false]), hs)
    | .mapIter (some m) since seen last => if isStr then none else match getH m hs.heap with
      | .map es clock =>
        let es := entriesM es
        if !seen.isEmpty && !es.isEmpty && es.all (fun e => Nat.ble last e.2.2) then none else
        let left := es.filter fun e => !seen.contains e.2.2
        if left.any fun e => Nat.ble since e.2.2 then none else
        match left with
        | [] => some (vTup (unl [.bool false]), hs)
        | (k, v, born) :: rest => if rest.isEmpty || any then some (vTup (unl [.bool true, k, v]), hs.put r (.mapIter (some m) since (seen ++ [born]) clock)) else none
      | _ => none
    | .strIter s pos => if isStr then match s[pos]? with
        | none => some (vTup (unl [.bool false]), hs)
        | some c => if c < 128 then some (vTup (unl [.bool true, .int .i64 (.ofNat pos), .int .i32 (.ofNat c)]), hs.put r (.strIter s (pos + 1))) else none
      else none
    | _ => none
  | _ => none
def sEntry (x : OB) : E16 → Loc → HS → Option AV := fun e L hs => match ev x e L with
  | .ptr r 0 0 => match getH r hs.heap with
    | .mapIter (some m) _ seen stepped => match getH m hs.heap, seen.getLast? with
      | .map es clock, some stamp => if Nat.beq clock stepped then ((entriesM es).find? fun e => Nat.beq e.2.2 stamp).map fun e => vTup (unl [e.1, e.2.1]) else none
      | _, _ => none
    | _ => none
  | _ => none

-- others
def byteOfCells : AV → Option Nat
  | .cons (.int .u8 (.ofNat n)) .nil => if n < 256 then some n else none
  | _ => none
def isStrV (x : AV) : Bool := match x with | .str _ => true | _ => false
def sToStr (x : OB) : E16 → Loc → HS → Option AV := fun e L hs => do
  let l ← elemsOf (ev x e L) hs
  let bs ← l.mapM byteOfCells
  if isStrV (ev x e L) then none else some (.str bs)
def sToBytes (elem : Nat) (x : OB) : E16 → Loc → HS → Option (AV × HS) := fun e L hs => match ev x e L with
  | .str s =>
    let (b, hs) := hs.new (.cells elem 1 s.length (setMany .nil 0 (s.map fun c => .cons (.int .u8 (.ofNat (c % 256))) .nil)) .ro)
    some (if s.isEmpty then vSlz b 0 0 0 0 else .sl b 0 s.length 0 true, hs)
  | _ => none
def sConvGen (s d : TypeId) (x : OB) : E16 → Loc → HS → Option AV := fun e L _ => do
  let v ← plain (ev x e L)
  let r ← pureEval P (convert s d v)
  back r
def sUnsafePtr (u : TypeId) (x : OB) : E16 → Loc → HS → Option AV := fun e L hs => match ev x e L with
  | .ptr b i j => match getH b hs.heap with
    | .var elem z _ => if i = 0 && Nat.beq (csz P elem) z && liesAt P P.depth elem 1 j u 1 then some (.ptr b i j) else none
    | _ => none
  | _ => none
def sPtrOnly (x : OB) : E16 → Loc → HS → Option AV := fun e L hs => match ev x e L with
  | .ptr b i j => match getH b hs.heap with
    | .var _ z _ => if Nat.beq i 0 && ltN j z then some (.ptr b i j) else none
    | .cells _ z n _ kd => if alive kd hs && ltN i n && ltN j z then some (.ptr b i j) else none
    | _ => none
  | _ => none
def assertNo (asserted : TypeId) (ok : Bool) : Option AV := if ok then (zeroP P asserted).map fun z => vTup (unl [z, .bool false]) else none
def assertI (asserted : TypeId) (ok : Bool) (want : Array (String × TypeId)) (v : AV) : Option AV := match v with
  | .oth 4 .. => assertNo P asserted ok
  | .oth 8 t _ _ _ _ _ z _ => match infoT P t with
    | some i => (match Instr.missingMethod want i.methods with
      | none => some (if ok then vTup (unl [vIface t z, .bool true]) else vIface t z)
      | some _ => assertNo P asserted ok)
    | none => none
  | _ => none
def assertC (asserted : TypeId) (ok : Bool) (v : AV) : Option AV := match v with
  | .oth 4 .. => assertNo P asserted ok
  | .oth 8 t _ _ _ _ _ z _ => if t = asserted then some (if ok then vTup (unl [z, .bool true]) else z) else assertNo P asserted ok
  | _ => none
def sAssert (asserted : TypeId) (ok : Bool) (x : OB) : E16 → Loc → HS → Option AV := fun e L _ => match und P asserted with
  | some (.interface want) => assertI P asserted ok want (ev x e L)
  | some _ => assertC P asserted ok (ev x e L)
  | none => none
def sUn (op : UnOp) (x : OB) : E16 → Loc → HS → Option AV := fun e L _ => do
  let v ← plain (ev x e L)
  let r ← pureEval P (Op.unary op v)
  back r
def sBin (op : BinOp) (t : TypeId) (xo yo : Operand) (x y : OB) : E16 → Loc → HS → Option AV := fun e L _ => binGen P op t xo yo (ev x e L) (ev y e L)
def sMinMax (isMax : Bool) (xs : OL) : E16 → Loc → HS → Option AV := fun e L _ => do
  let vs ← plains (evL xs e L)
  let r ← pureEval P (if isMax then Builtin.max_ #[] 0 vs.toArray else Builtin.min_ #[] 0 vs.toArray)
  back r
def sSliceData (x : OB) : E16 → Loc → HS → Option AV := fun e L _ => match ev x e L with
  | .oth 1 .. => some vNilp
  | .sl b i l _ _ => if l = 0 then none else some (.ptr b i 0)
  | _ => none
def undId (t : TypeId) : TypeId := match infoT P t with | some { desc := .named _ u, .. } => u | _ => t
def shutK : Kd → Bool | .opn false _ _ _ => true | .ro => true | _ => false
def sUnsafeString (u : TypeId) (x n : OB) : E16 → Loc → HS → Option (AV × HS) := fun e L hs => match ev x e L, asNat (ev n e L) with
  | .oth 0 .., some 0 => some (.str [], hs)
  | .ptr b i 0, some n => if n = 0 then some (.str [], hs) else match getH b hs.heap with
    | .cells elem z m els kd => if shutK kd || !(Nat.beq z 1) || !(Nat.beq (csz P elem) 1) || !(Nat.beq (undId P elem) (undId P u)) || !(Nat.ble n 1000000) then none else match elemsOf (.sl b i n 0 false) hs with
      | some l => (l.mapM byteOfCells).map fun bs => (.str bs, hs.put b (.cells elem z m els .ro))
      | none => none
    | _ => none
  | _, _ => none
def sCopy (sz : Nat) (d s : OB) : E16 → Loc → HS → Option (AV × HS) := fun e L hs => match ev d e L, elemsOf (ev s e L) hs with
  | .sl b i l _ _, some src => if src.all (lenB sz) then (match getH b hs.heap with
    | .cells elem z m els .ex => if Nat.ble (i + l) m && Nat.beq z sz then some (.int .i64 (.ofNat (src.take l).length), hs.put b (.cells elem z m (setMany els i (src.take l)) .ex)) else none
    | _ => none) else none
  | .oth 1 .., some src => if src.all (lenB sz) then some (.int .i64 (.ofNat 0), hs) else none
  | .oth 11 .., some src => if src.all (lenB sz) then some (.int .i64 (.ofNat 0), hs) else none
  | _, _ => none

-- hints: which temporaries live in slots (by function, as bits), in which order a region that draws is gone through (by function and region). Nothing is taken on trust of them.
def addT (m t : Nat) : Nat := Nat.lor m (Nat.shiftLeft 1 t)
def hasT (m t : Nat) : Bool := Nat.beq (Nat.land (Nat.shiftRight m t) 1) 1
structure Hints where
  globs : List Nat
  slots : List Nat
  ords : List (List (Nat × List (Nat × Bool)))
variable (T : Hints)
def slotsOf (f : Nat) : Nat := match fget T.slots f with | some m => m | none => 0
def ntOf (f : Nat) : Nat := match fnAt P f with | some fn => fn.ntmps | none => 0
def ordIn (id : Nat) : List (Nat × List (Nat × Bool)) → Option (List (Nat × Bool))
  | [] => none
  | (i, l) :: r => if Nat.beq i id then some l else ordIn id r
def ordOf (f id : Nat) : Option (List (Nat × Bool)) := (fget T.ords f).bind (ordIn id)
def dstOf (ops : Array Oper) (j : Nat) : Option Tmp := (fget ops.toList j).bind (·.dst)

def nthLoc : Nat → Loc → Loc
  | 0, L => L
  | n + 1, L => nthLoc n L.tl
def locOB : Nat → OB
  | 0 => .mk fun _ L => L.hd
  | 1 => .mk fun _ L => L.tl.hd
  | 2 => .mk fun _ L => L.tl.tl.hd
  | 3 => .mk fun _ L => L.tl.tl.tl.hd
  | 4 => .mk fun _ L => L.tl.tl.tl.tl.hd
  | 5 => .mk fun _ L => L.tl.tl.tl.tl.tl.hd
  | 6 => .mk fun _ L => L.tl.tl.tl.tl.tl.tl.hd
  | 7 => .mk fun _ L => L.tl.tl.tl.tl.tl.tl.tl.hd
  | n => .mk fun _ L => (nthLoc n L).hd
def idx (t : Nat) : List Nat → Nat → Option Nat
  | [], _ => none
  | u :: l, n => if Nat.beq t u then some n else idx t l (n + 1)
def cO (fn : Nat) (ns : List Nat) : Operand → Option OB
  | .tmp t => match idx t ns 0 with
    | some d => some (locOB d)
    | none => if hasT (slotsOf T fn) t && Nat.ble t 255 then some (opSlot t) else none
  | .const v => if pureV (ofValue v) then some (.mk fun _ _ => ofValue v) else none
  | .global g => if T.globs.contains g then some (.mk fun _ _ => .ptr g 0 0) else none
  | .func f => some (.mk fun _ _ => vFn f .nil .nil)
def cOL (fn : Nat) (ns : List Nat) : List Operand → Option OL
  | [] => some .nil
  | x :: l => match cO T fn ns x, cOL fn ns l with | some a, some t => some (.cons a t) | _, _ => none

inductive Blk where | mk (F : K → E16 → Loc → Nat → FI → Stk → HS → Out)
def bBad : Blk := .mk fun _ _ _ _ _ _ _ => .fail
def bV (g : VO) (d : Fin) (k : Todo) : Blk := @Fin.rec (fun _ => Blk) (fun f => .mk fun ih e L fn fi s hs => g e L hs fun v => f v ih k e L fn fi s hs) d
def bH (g : HO) (d : Fin) (k : Todo) : Blk := @Fin.rec (fun _ => Blk) (fun f => .mk fun ih e L fn fi s hs => g e L hs fun v hs' => f v ih k e L fn fi s hs') d

def todoOf (f : Nat) : Todo := match fnAt P f with | some { body := some b, .. } => [.code b] | _ => []
def hasBody (f : Nat) : Bool := match fnAt P f with | some { body := some _, .. } => true | _ => false
def nameOf (f : Nat) : String := match fnAt P f with | some fn => if fn.origin == "" then fn.name else "" | none => ""
def setSB (n : Nat) (v : AV) (e : E16) : E16 := @SB.rec (fun _ => E16) (fun f => f v e) (stSlot n)
def argsE : AV → Nat → E16 → E16 := (@AV.rec (fun _ => Nat → E16 → E16) (fun _ _ _ e => e) (fun _ _ e => e) (fun _ _ _ _ e => e) (fun _ _ _ _ _ _ e => e) (fun _ _ e => e) (fun _ e => e) (fun h _ _ ih2 n e => ih2 (Nat.add n 1) (setSB n h e)) (fun _ _ _ e => e) (fun _ _ _ _ _ _ _ _ _ _ _ _ e => e))
def appL : AV → AV → AV := (@AV.rec (fun _ => AV → AV) (fun _ _ l => l) (fun _ l => l) (fun _ _ _ l => l) (fun _ _ _ _ _ l => l) (fun _ l => l) (fun l => l) (fun h _ _ ih2 l => .cons h (ih2 l)) (fun _ _ l => l) (fun _ _ _ _ _ _ _ _ _ _ _ l => l))
def lenLe : Nat → AV → Bool := @Nat.rec (fun _ => AV → Bool) ((@AV.rec (fun _ => Bool) (fun _ _ => false) (fun _ => false) (fun _ _ _ => false) (fun _ _ _ _ _ => false) (fun _ => false) (true) (fun _ _ _ _ => false) (fun _ _ => false) (fun _ _ _ _ _ _ _ _ _ _ _ => false))) (fun _ ih => (@AV.rec (fun _ => Bool) (fun _ _ => false) (fun _ => false) (fun _ _ _ => false) (fun _ _ _ _ _ => false) (fun _ => false) (true) (fun _ t _ _ => ih t) (fun _ _ => false) (fun _ _ _ _ _ _ _ _ _ _ _ => false)))
def lenOL : OL → Nat
  | .nil => 0
  | .cons _ t => lenOL t + 1
def enterK (dfr : Bool) (f : Nat) (args : AV) (ih : K) (s : Stk) (hs : HS) : Out :=
  ih (argsE args 0 e0) (todoOf P f) .nil f (.mk dfr none .nil) s hs

-- library functions without a Go body
def indexByteL (c : Nat) : List Nat → Nat → Int
  | [], _ => .negSucc 0
  | b :: r, i => if Nat.beq (b % 256) (c % 256) then .ofNat i else indexByteL c r (i + 1)
def countL (c : Nat) : List Nat → Nat → Nat
  | [], n => n
  | b :: r, n => countL c r (if Nat.beq (b % 256) (c % 256) then n + 1 else n)
def sExtern (name : String) (args : OL) : E16 → Loc → HS → Option (AV × HS) := fun e L hs =>
  match name, lst (evL args e L) with
  | "internal/abi.NoEscape", [x] => some (x, hs)
  | "internal/bytealg.CountString", [.str s, .int .u8 (.ofNat c)] => some (.int .i64 (.ofNat (countL c s 0)), hs)
  | "internal/bytealg.IndexByteString", [.str s, .int .u8 (.ofNat c)] => some (.int .i64 (indexByteL c s 0), hs)
  | "maps.clone", [.oth 8 t _ _ _ _ _ (.oth 5 r _ _ _ _ _ _ _) _] => match getH r hs.heap with
    | .map es clock => let (b, hs) := hs.new (.map es clock); some (vIface t (vMap b), hs)
    | _ => none
  | _, _ => none

def bCallS (f : Nat) (args : OL) (d : DB) (k : Todo) : Blk := .mk fun ih e L fn fi s hs => enterK P false f (evL args e L) ih (.fr e k L fn fi d s) hs
def paramsE (ps : List Nat) (l : AV) (e : E16) : E16 := match ps with
  | [] => e
  | p :: ps => paramsE ps (tlL l) (setSB p (hdL l) e)
def yieldK (l : Nat) (args : AV) (ih : K) (s : Stk) (hs : HS) : Out := match getH l hs.heap with
  | .loop _ _ fn env ps assign body _ => if lenIs ps.length args && ps.all (fun p => Nat.ble p 255 && ltN p (ntOf P fn)) then ih (paramsE ps args env) [.code assign, .begR, .code body] .nil fn (.mk false (some l) .nil) s hs else .fail
  | _ => .fail
def callV (fv args : AV) (dfr : Bool) (ih : K) (s : Stk) (hs : HS) : Out := match fv with
  | .oth 6 f _ _ _ _ _ x y => if hasBody P f && lenLe 200 (appL x (appL args y)) then enterK P dfr f (appL x (appL args y)) ih s hs else .fail
  | .oth 7 l .. => if dfr then .fail else yieldK P l args ih s hs
  | _ => .fail
def bCallD (x : OB) (args : OL) (d : DB) (k : Todo) : Blk := .mk fun ih e L fn fi s hs => callV P (ev x e L) (evL args e L) false ih (.fr e k L fn fi d s) hs
def bDefer (x : OB) (args : OL) (f : Fin) (k : Todo) : Blk := .mk fun ih e L fn fi s hs => match fi with
  | .mk dfr none ds => (match ev x e L with
    | .oth 6 g _ _ _ _ _ y z => finK f undef ih k e L fn (.mk dfr none (.call (vFn g y z) (evL args e L) ds)) s hs
    | _ => .fail)
  | _ => .fail
def bRecover (f : Fin) (k : Todo) : Blk := .mk fun ih e L fn fi s hs => match fi with
  | .mk _ none _ => finK f vNili ih k e L fn fi s hs
  | _ => .fail

-- the end of a function, of a round
def popK (v : AV) (ih : K) (s : Stk) (hs : HS) : Out := @Stk.rec (fun _ => Out) (.done v hs) (fun e k L fn fi d t _ => finK (finOf d) v ih k e L fn fi t hs) s
inductive RL where | nil | slot (n : Nat) (t : RL) | cell (n ty : Nat) (t : RL) | bad
def resL : RL → E16 → HS → (AV → Out) → Out
  | .nil, e, hs, q => q .nil
  | .slot n t, e, hs, q => resL t e hs fun r => q (.cons (ev (opSlot n) e .nil) r)
  | .cell n ty t, e, hs, q => match aggQ P ty with
    | some true => vLoadA (csz P ty) (opSlot n) e .nil hs fun v => resL t e hs fun r => q (.cons v r)
    | some false => vLoad1 (opSlot n) e .nil hs fun v => resL t e hs fun r => q (.cons v r)
    | none => .fail
  | .bad, _, _, _ => .fail
def resR (f : Nat) : List ResultVar → RL
  | [] => .nil
  | .tmp n :: l => if hasT (slotsOf T f) n && Nat.ble n 255 then .slot n (resR f l) else .bad
  | .cell n ty :: l => if hasT (slotsOf T f) n && Nat.ble n 255 then .cell n ty (resR f l) else .bad
def resOf (f : Nat) : RL := match fnAt P f with
  | some fn => resR T f fn.results.toList
  | none => .bad
def oneV (l : AV) : AV := match l with
  | .cons v .nil => v
  | l => vTup l
def retK (fn : Nat) (e : E16) (L : Loc) (dfr : Bool) (ds : DL) (ih : K) (s : Stk) (hs : HS) : Out := match ds with
  | .nil => resL P (resOf P T fn) e hs fun r => popK (oneV r) ih s hs
  | .mark r t => match getH r hs.heap with
    | .defd (some .nil) => ih e [.code .ret] L fn (.mk dfr none t) s (hs.put r (.defd none))
    | _ => .fail
  | .call fv args t => callV P fv args true ih (.fr e [.code .ret] L fn (.mk dfr none t) (.none false) s) hs
def endRound (l : Nat) (jump : Option Code) (ih : K) (s : Stk) (hs : HS) : Out := match getH l hs.heap with
  | .loop _ _ fn env ps assign body df => popK (.bool jump.isNone) ih s (hs.put l (.loop (if jump.isNone then 0 else 2) jump fn env ps assign body df))
  | _ => .fail
def bLeave (jump : Option Code) : Blk := .mk fun ih e L fn fi s hs => match fi with
  | .mk dfr none ds => (match jump with | none | some .ret => retK P T fn e L dfr ds ih s hs | _ => .fail)
  | .mk _ (some l) .nil => endRound l jump ih s hs
  | _ => .fail
def bBegR (k : Todo) : Blk := .mk fun ih e L fn fi s hs => match fi with
  | .mk _ (some l) _ => (match getH l hs.heap with
    | .loop 0 p f env ps assign body df => ih e k L fn fi s (hs.put l (.loop 1 p f env ps assign body df))
    | _ => .fail)
  | _ => .fail
def bEndRF (l : Nat) (k : Todo) : Blk := .mk fun ih e L fn fi s hs => match getH l hs.heap with
    | .loop st p f env ps assign body df => if Nat.beq st 1 then .fail else
      ih e (match p with | some c => .code c :: k | none => k) L fn fi s (hs.put l (.loop 3 p f env ps assign body df))
    | _ => .fail
def bRangeF (x : OB) (ps : List Nat) (assign body : Code) (k : Todo) : Blk := .mk fun ih e L fn fi s hs => match fi with
  | .mk dfr none ds =>
    let (r, hs) := hs.new (.defd (some .nil))
    let (l, hs) := hs.new (.loop 0 none fn e ps assign body r)
    ifO (Nat.ble l 1000000) (callV P (ev x e L) (.cons (vYl l) .nil) false ih (.fr e (.endRF l :: k) L fn (.mk dfr none (.mark r ds)) (.none false) s) hs) .fail
  | .mk dfr (some o) ds => match getH o hs.heap with
    | .loop _ _ _ _ _ _ _ df =>
      let (l, hs) := hs.new (.loop 0 none fn e ps assign body df)
      ifO (Nat.ble l 1000000) (callV P (ev x e L) (.cons (vYl l) .nil) false ih (.fr e (.endRF l :: k) L fn (.mk dfr (some o) ds) (.none false) s) hs) .fail
    | _ => .fail

-- operations
def cPL (fn : Nat) (ns : List Nat) (place : Nat → Option (Nat × Nat)) : List (Nat × Operand) → Option PL
  | [] => some .nil
  | (i, x) :: l => match place i, cO T fn ns x, cPL fn ns place l with
    | some (off, sz), some a, some t => some (.cons off sz a t)
    | _, _, _ => none
def cParts (fn : Nat) (ns : List Nat) : List (Nat × Operand) → Option (List (Nat × OB))
  | [] => some []
  | (i, x) :: l => match cO T fn ns x, cParts fn ns l with | some a, some t => some ((i, a) :: t) | _, _ => none
def cOpt (fn : Nat) (ns : List Nat) : Option Operand → Option (Option OB)
  | none => some none
  | some x => (cO T fn ns x).map some
inductive GO where | v (g : VO) | h (g : HO) | bad
def cV (x : Option OB) (g : OB → VO) : GO := match x with | some a => .v (g a) | none => .bad
def cV2 (x y : Option OB) (g : OB → OB → VO) : GO := match x, y with | some a, some b => .v (g a b) | _, _ => .bad
def cH (x : Option OB) (g : OB → HO) : GO := match x with | some a => .h (g a) | none => .bad
def cH2 (x y : Option OB) (g : OB → OB → HO) : GO := match x, y with | some a, some b => .h (g a b) | _, _ => .bad
def vSame : VO := fun _ _ _ _ => .fail
-- operation by operation (each a word of its own: what the kernel copies is small)
abbrev CG := Nat → List Nat → GO
def gBad : CG := fun _ _ => .bad
def gMove (x : Operand) : CG := fun fn ns => cV (cO T fn ns x) vMove
def gPick (c a b : Operand) : CG := fun fn ns => match cO T fn ns c, cO T fn ns a, cO T fn ns b with | some c, some a, some b => .v (vPick c a b) | _, _, _ => .bad
def gAlloc (t : Nat) : CG := fun _ _ => if Nat.beq (csz P t) 0 || !lenIs (csz P t) (zeroC P t) || !pureV (zeroV P t) then .bad else .h (hAlloc t (csz P t) (zeroC P t))
def gBox (t : Nat) (x : Operand) : CG := fun fn ns => if Nat.beq (csz P t) 0 then .bad else cH (cO T fn ns x) (hBox t (csz P t))
def gBuild (t : Nat) (ps : Array (Nat × Operand)) : CG := fun fn ns => match zeroP P t, und P t with
  | some (.agg z), some (.struct fields) => if fields.toList.all (fun f => (infoT P f.type).isSome) then (match cPL T fn ns (fun i => (fields[i]?).map fun f => (f.offset, csz P f.type)) ps.toList with | some l => .v (vBuild z l) | none => .bad) else .bad
  | some (.agg z), some (.array n e) => if Nat.beq (csz P e) 0 then .bad else (match cPL T fn ns (fun i => some (i * csz P e, csz P e)) ps.toList with | some l => .v (vBuild z l) | none => .bad)
  | _, _ => .bad
def gBuildSlice (t n : Nat) (ps : Array (Nat × Operand)) : CG := fun fn ns => match elemOf P t, cParts T fn ns ps.toList with
  | some e, some l => (match zeroP P e with | some z => if Nat.beq (csz P e) 0 then .bad else .h (hSlow (sBuildSlice e (csz P e) n (cellsV z) l)) | none => .bad)
  | _, _ => .bad
def gLoad (t : Nat) (a : Operand) : CG := fun fn ns => match aggQ P t with | some true => cV (cO T fn ns a) (vLoadA (csz P t)) | some false => cV (cO T fn ns a) vLoad1 | none => .bad
def gStore (t : Nat) (a x : Operand) : CG := fun fn ns => if Nat.beq (csz P t) 0 then .bad else cH2 (cO T fn ns a) (cO T fn ns x) (hStore (csz P t))
def gNilCheck (x : Operand) : CG := fun fn ns => cV (cO T fn ns x) vNilCheck
def gFieldAddr (s : Nat) (x : Operand) (f : Nat) : CG := fun fn ns => match fieldOf P s f with | some fd => if Nat.beq (csz P fd.type) 0 then .bad else cV (cO T fn ns x) (vFieldAddr fd.offset) | none => .bad
def gField (s : Nat) (x : Operand) (f : Nat) : CG := fun fn ns => match fieldOf P s f with | some fd => (match aggQ P fd.type with | some true => cV (cO T fn ns x) (vFieldA fd.offset (csz P fd.type)) | some false => cV (cO T fn ns x) (vField1 fd.offset) | none => .bad) | none => .bad
def isIntT (t : Nat) : Bool := match und P t with | some (.int _) => true | _ => false
def gBinS (op : BinOp) (t : Nat) (x y : Operand) : CG := fun fn ns => cV2 (cO T fn ns x) (cO T fn ns y) fun a b => vSlow (sBin P op t x y a b)
def gBinI (op : BinOp) (g : OB → OB → VO) (t : Nat) (x y : Operand) : CG := fun fn ns => if isIntT P t then cV2 (cO T fn ns x) (cO T fn ns y) g else gBinS P T op t x y fn ns
def gEq (flip : Bool) (op : BinOp) (t : Nat) (x y : Operand) : CG := fun fn ns => cV2 (cO T fn ns x) (cO T fn ns y) (vEq P (eqCls P t) flip op t x y)
def gBin : BinOp → Nat → Operand → Operand → CG := @BinOp.rec (fun _ => Nat → Operand → Operand → CG)
  (gBinI P T .add vAdd) (gBinI P T .sub vSub) (gBinS P T .mul) (gBinS P T .quo) (gBinS P T .rem) (gBinS P T .and) (gBinS P T .or) (gBinS P T .xor) (gBinS P T .shl) (gBinS P T .shr) (gBinS P T .andNot)
  (gEq P T false .eql) (gEq P T true .neq) (gBinI P T .lss vLss) (gBinI P T .leq vLeq) (gBinI P T .gtr vGtr) (gBinI P T .geq vGeq)
def gUn (op : UnOp) (x : Operand) : CG := fun fn ns => match op with
  | .not => cV (cO T fn ns x) vNot
  | _ => cV (cO T fn ns x) fun a => vSlow (sUn P op a)
def gConvert (s d : Nat) (x : Operand) : CG := fun fn ns => match und P s, und P d with
  | some .string, some .string => cV (cO T fn ns x) vStr
  | some .string, some (.slice e) => (match und P e with | some (.int .u8) => cH (cO T fn ns x) fun a => hSlow (sToBytes e a) | _ => .bad)
  | some (.slice e), some .string => (match und P e with | some (.int .u8) => cV (cO T fn ns x) fun a => vSlow (sToStr a) | _ => .bad)
  | some (.pointer t), some .unsafePointer => if Nat.beq (csz P t) 0 then .bad else cV (cO T fn ns x) fun a => vSlow (sPtrOnly a)
  | some .unsafePointer, some (.pointer u) => if Nat.beq (csz P u) 0 then .bad else cV (cO T fn ns x) fun a => vSlow (sUnsafePtr P u a)
  | some (.int _), some (.int _) | some (.int _), some .string => cV (cO T fn ns x) fun a => vSlow (sConvGen P s d a)
  | _, _ => .bad
def gIface (t : Nat) (x : Operand) : CG := fun fn ns => (match und P t with | some (.interface _) => .bad | some _ => cV (cO T fn ns x) fun a e L hs q => q (vIface t (ev a e L)) | none => .bad)
def gFunc (f : Fn) (a b : Array Operand) : CG := fun fn ns => match f with
  | .func f => (match cOL T fn ns a.toList, cOL T fn ns b.toList with
    | some a, some b => .v fun e L hs q => q (vFn f (evL a e L) (evL b e L))
    | _, _ => .bad)
  | _ => .bad
def gMakeMap (t : Nat) (r : Option Operand) : CG := fun fn ns => (match r with | none => .h (hSlow sMakeMap) | some (.const (.int _ _)) => (match und P t with | some (.map _ _) => .h (hSlow sMakeMap) | _ => .bad) | _ => .bad)
def bytesOk (e : Nat) : Bool := match infoT P e with | some i => Nat.ble i.bytes 1000000 | none => false
def gMakeSlice (t : Nat) (l c : Operand) : CG := fun fn ns => match elemOf P t with | some e => (match zeroP P e with | some z => if Nat.beq (csz P e) 0 || !bytesOk P e then .bad else cH2 (cO T fn ns l) (cO T fn ns c) fun a b => hSlow (sMakeSlice e (csz P e) (cellsV z) a b) | none => .bad) | none => .bad
def gSlice (t : Nat) (x : Operand) (lo hi mx : Option Operand) : CG := fun fn ns => match cO T fn ns x, cOpt T fn ns lo, cOpt T fn ns hi, cOpt T fn ns mx with
  | some x, some lo, some hi, some mx => if mx.isSome && hi.isNone then .bad else (match und P t with
    | some .string => if mx.isSome then .bad else .v (vSlow (sSliceS x lo hi))
    | some (.slice e) => if Nat.beq (csz P e) 0 then .bad else .v (vSlow (sSliceOf (csz P e) x lo hi mx))
    | some (.array n e) => if Nat.beq (csz P e) 0 then .bad else .v (vSlow (sSliceArr n (csz P e) x lo hi mx))
    | _ => .bad)
  | _, _, _, _ => .bad
def gIdxAddr (t : Nat) (x i : Operand) : CG := fun fn ns => match und P t with
  | some (.slice e) => if Nat.beq (csz P e) 0 then .bad else cV2 (cO T fn ns x) (cO T fn ns i) (vIdxAddr (csz P e))
  | some (.array n e) => if Nat.ble n 1 || Nat.beq (csz P e) 0 then .bad else cV2 (cO T fn ns x) (cO T fn ns i) (vIdxAddrA n (csz P e))
  | _ => .bad
def gIndex (t : Nat) (x i : Operand) : CG := fun fn ns => match und P t with
  | some .string => cV2 (cO T fn ns x) (cO T fn ns i) vIdxStr
  | some (.array n e) => (match aggQ P e with | some ag => cV2 (cO T fn ns x) (cO T fn ns i) fun a b => vSlow (sIdxAgg n (csz P e) ag a b) | none => .bad)
  | _ => .bad
def gLookup (t : Nat) (x i : Operand) (ok : Bool) : CG := fun fn ns => match und P t with
  | some (.map _ e) => (match zeroP P e with | some z => cV2 (cO T fn ns x) (cO T fn ns i) fun a b => vSlow (sLookup (keyCls P t) z ok a b) | none => .bad)
  | _ => .bad
def gMapUpdate (t : Nat) (m k x : Operand) : CG := fun fn ns => match cO T fn ns m, cO T fn ns k, cO T fn ns x with | some m, some k, some x => .h (hSlow (sMapUpdate (keyCls P t) m k x)) | _, _, _ => .bad
def gMapEntry (t : Nat) (m k : Operand) : CG := fun fn ns => match und P t with
  | some (.map _ e) => (match zeroP P e with | some z => cH2 (cO T fn ns m) (cO T fn ns k) fun m k => hSlow (sMapEntry (keyCls P t) z m k) | none => .bad)
  | _ => .bad
def gEntryStore (m s x : Operand) : CG := fun fn ns => match cO T fn ns m, cO T fn ns s, cO T fn ns x with | some m, some s, some x => .h (hSlow (sEntryStore m s x)) | _, _, _ => .bad
def gRange (t : Nat) (x : Operand) : CG := fun fn ns => match und P t with
  | some .string => cH (cO T fn ns x) fun a => hSlow (sRange true a)
  | some (.map _ _) => cH (cO T fn ns x) fun a => hSlow (sRange false a)
  | _ => .bad
def gNext (x : Operand) (s : Bool) : CG := fun fn ns => cH (cO T fn ns x) fun a => hSlow (sNext false s a)
def gEntry (x : Operand) : CG := fun fn ns => cV (cO T fn ns x) fun a => vSlow (sEntry a)
def gAssert (x : Operand) (a : Nat) (ok : Bool) : CG := fun fn ns => cV (cO T fn ns x) fun v => vSlow (sAssert P a ok v)
def gExtract (x : Operand) (i : Nat) : CG := fun fn ns => cV (cO T fn ns x) (vExtract i)
def argO (l : List Operand) (i : Nat) : Option Operand := l[i]?
def gAppend (c : Call) : CG := fun fn ns => match c.args.toList with
  | [s, x] => (match (c.argTypes[0]?).bind (elemOf P), (c.argTypes[1]?).bind (und P) with
      | some e, some (.int _) => .bad
      | some e, some _ => if Nat.beq (csz P e) 0 || !bytesOk P e then .bad else (match zeroP P e with | some z => if lenIs (csz P e) (cellsV z) then cH2 (cO T fn ns s) (cO T fn ns x) fun a b => hSlow (sAppend e (csz P e) a b) else .bad | none => .bad)
      | _, _ => .bad)
  | _ => .bad
def gLen (c : Call) : CG := fun fn ns => match c.args.toList with
  | [x] => (match (c.argTypes[0]?).bind (und P) with
      | some (.array n _) => .v fun _ _ _ q => q (.int .i64 (.ofNat n))
      | some (.map _ _) => cV (cO T fn ns x) fun a => vSlow (sLenMap a)
      | some .string => cV (cO T fn ns x) vLenS
      | some (.slice _) => cV (cO T fn ns x) vLen
      | _ => .bad)
  | _ => .bad
def gMinMax (isMax : Bool) (c : Call) : CG := fun fn ns => (match cOL T fn ns c.args.toList with | some l => .v (vSlow (sMinMax P isMax l)) | none => .bad)
def g2 (g : OB → OB → HO) (c : Call) : CG := fun fn ns => match c.args.toList with
  | [d, s] => cH2 (cO T fn ns d) (cO T fn ns s) g
  | _ => .bad
def gCopy (c : Call) : CG := match (c.argTypes[0]?).bind (elemOf P) with
  | some e => if Nat.beq (csz P e) 0 then gBad else g2 T (fun a b => hSlow (sCopy (csz P e) a b)) c
  | none => gBad
def gDelete (c : Call) : CG := match c.argTypes[0]? with
  | some t => g2 T (fun a b => hSlow (sDelete (keyCls P t) a b)) c
  | none => gBad
def gSliceData (c : Call) : CG := fun fn ns => match c.args.toList with
  | [x] => cV (cO T fn ns x) fun a => vSlow (sSliceData a)
  | _ => .bad
def gUnsafeString (c : Call) : CG := fun fn ns => match c.args.toList, (c.argTypes[0]?).bind (und P) with
  | [x, n], some (.pointer u) => cH2 (cO T fn ns x) (cO T fn ns n) fun a b => hSlow (sUnsafeString P u a b)
  | _, _ => .bad
def gNoB (c : Call) : CG := gBad
def gBuiltin : Builtin → Call → CG := @Builtin.rec (fun _ => Call → CG)
  (gAppend P T) gNoB gNoB gNoB gNoB (gCopy P T) (gDelete P T) gNoB (gLen P T) gNoB (gMinMax P T true) (gMinMax P T false) gNoB gNoB gNoB gNoB gNoB gNoB
  gNoB gNoB (gSliceData T) (gUnsafeString P T) gNoB gNoB gNoB gNoB
def gCall (c : Call) : CG := match c.callee with
  | .builtin b => gBuiltin P T b c
  | _ => gBad
/-- an operation that is no call of a Go function, no defer -/
def cOp : Op → CG := @Op.rec (fun _ => CG)
  (gMove T) (gMove T) (gPick T) (gAlloc P) (gBox P T) (gBuild P T) (gBuildSlice P T) (gMapUpdate P T) (gLoad P T) (gStore P T) (fun _ => gBad) (fun _ => gBad) (gNilCheck T)
  (fun op t x y _ => gBin P T op t x y) (fun op _ x => gUn P T op x) (gConvert P T) (fun _ _ => gBad) (gIface P T) (gFunc T) (gMakeMap P) (fun _ _ => gBad) (gMakeSlice P T) (gSlice P T)
  (gFieldAddr P T) (gField P T) (gIdxAddr P T) (gIndex P T) (gLookup P T) (gMapUpdate P T) (gMapEntry P T) (fun _ => gEntryStore T) (gRange P T) (gNext T) (gEntry T)
  (fun x _ => gAssert P T x) (gExtract T) (gCall P T) (fun _ => gBad) (fun _ => gBad) (fun _ => gBad) (fun _ _ => gBad) (fun _ _ _ => gBad) (fun _ _ => gBad)

def cDst (fn : Nat) (d : Option Tmp) (last : Bool) : DB := match d with
  | none => .none last
  | some t => if hasT (slotsOf T fn) t then (if ltN t (ntOf P fn) && Nat.ble t 255 then .slot t last else .bad) else (if ltN t (ntOf P fn) then .loc else .bad)
def pushN (fn : Nat) (d : Option Tmp) (ns : List Nat) : List Nat := match d with
  | some t => if hasT (slotsOf T fn) t then ns else t :: ns
  | none => ns
abbrev CB := Nat → List Nat → DB → Todo → Blk
def goBlk : GO → DB → Todo → Blk := @GO.rec (fun _ => DB → Todo → Blk) (fun g d k => bV g (finOf d) k) (fun g d k => bH g (finOf d) k) (fun _ _ => bBad)
def kCallV (f : Operand) (args : Array Operand) : CB := fun fn ns d k => match cOL T fn ns args.toList with
  | some l => (match f with
    | .func f => if hasBody P f then (if Nat.ble (lenOL l) 200 then bCallS P f l d k else bBad) else bH (hSlow (sExtern (nameOf P f) l)) (finOf d) k
    | x => match cO T fn ns x with | some x => bCallD P x l d k | none => bBad)
  | none => bBad
def kCall (c : Call) : CB := fun fn ns d k => match c.callee with
  | .value f => kCallV P T f c.args fn ns d k
  | .invoke _ _ => bBad
  | .builtin .recover => bRecover (finOf d) k
  | .builtin b => goBlk (gBuiltin P T b c fn ns) d k
def kDefer (c : Call) : CB := fun fn ns d k => match c.callee with
  | .value f => (match cO T fn ns f, cOL T fn ns c.args.toList with
    | some x, some l => bDefer x l (finOf d) k
    | _, _ => bBad)
  | _ => bBad
def kGo (op : Op) : CB := fun fn ns d k => goBlk (cOp P T op fn ns) d k
/-- one operation, and what goes on behind it -/
def kOp : Op → Op → CB := @Op.rec (fun _ => Op → CB)
  (fun _ => kGo P T) (fun _ => kGo P T) (fun _ _ _ => kGo P T) (fun _ => kGo P T) (fun _ _ => kGo P T) (fun _ _ => kGo P T) (fun _ _ _ => kGo P T) (fun _ _ _ _ => kGo P T) (fun _ _ => kGo P T) (fun _ _ _ => kGo P T) (fun _ => kGo P T) (fun _ => kGo P T) (fun _ => kGo P T)
  (fun _ _ _ _ _ => kGo P T) (fun _ _ _ => kGo P T) (fun _ _ _ => kGo P T) (fun _ _ => kGo P T) (fun _ _ => kGo P T) (fun _ _ _ => kGo P T) (fun _ _ => kGo P T) (fun _ _ => kGo P T) (fun _ _ _ => kGo P T) (fun _ _ _ _ _ => kGo P T)
  (fun _ _ _ => kGo P T) (fun _ _ _ => kGo P T) (fun _ _ _ => kGo P T) (fun _ _ _ => kGo P T) (fun _ _ _ _ => kGo P T) (fun _ _ _ _ => kGo P T) (fun _ _ _ => kGo P T) (fun _ _ _ _ => kGo P T) (fun _ _ => kGo P T) (fun _ _ => kGo P T) (fun _ => kGo P T)
  (fun _ _ _ _ => kGo P T) (fun _ _ => kGo P T) (fun c _ => kCall P T c) (fun _ _ _ _ _ _ => bBad) (fun c _ => kDefer T c) (fun _ _ _ _ _ _ => bBad) (fun _ _ _ _ _ _ _ => bBad) (fun _ _ _ _ _ _ _ _ => bBad) (fun _ _ _ _ _ _ _ => bBad)
def cOper (fn : Nat) (ns : List Nat) (o : Oper) (d : DB) (k : Todo) : Blk := kOp P T o.op o.op fn ns d k
def blkK : Blk → K → E16 → Loc → Nat → FI → Stk → HS → Out := @Blk.rec (fun _ => K → E16 → Loc → Nat → FI → Stk → HS → Out) fun F => F
/-- is a guard's value just the Bool that is wanted? -/
def guardB : AV → Bool → Bool := (@AV.rec (fun _ => Bool → Bool) (fun _ _ _ => false) (fun b w => @Bool.rec (fun _ => Bool) (notB b) b w) (fun _ _ _ _ => false) (fun _ _ _ _ _ _ => false) (fun _ _ => false) (fun _ => false) (fun _ _ _ _ _ => false) (fun _ _ _ => false) (fun _ _ _ _ _ _ _ _ _ _ _ _ => false))
def bGuard (x : OB) (w : Bool) (a b : Blk) : Blk := .mk fun ih e L fn fi s hs =>
  @Bool.rec (fun _ => Out) (blkK b ih e L fn fi s hs) (blkK a ih e L fn fi s hs) (guardB (ev x e L) w)
def bUndef (d : Fin) (k : Todo) : Blk := bV (fun _ _ _ q => q undef) d k
def cGuarded (fn : Nat) (ns : List Nat) (ops : Array Oper) (o : Oper) (d : DB) (k : Todo) : Blk := match o.guard with
  | none => cOper P T fn ns o d k
  | some (j, w) => match (dstOf ops j).bind fun t => cO T fn ns (.tmp t) with
    | some x => bGuard x w (cOper P T fn ns o d k) (bUndef (finOf d) k)
    | none => bBad
def bCond (x : OB) (a b : Todo) : Blk := .mk fun ih e L fn fi s hs => boolO (ev x e L) (ih e a L fn fi s hs) (ih e b L fn fi s hs)

-- regions that draw their order
def quietOp : Op → Bool
  | .assign _ | .store .. | .entryStore .. | .mapUpdate .. | .insert .. | .mapEntry .. | .defer _ | .go _ | .next .. | .range .. => false
  | .call { callee := .builtin b, .. } => match b with | .len | .max | .min | .cap => true | _ => false
  | .call _ => false
  | _ => true
def readsOp : Op → Bool
  | .load .. | .lookup .. | .entry _ => true
  | .call { callee := .builtin .len, .. } => true
  | .convert .. | .slice .. | .indexAddr .. => true
  | _ => false
def assignOp : Op → Bool
  | .assign _ => true
  | _ => false
/-- makes an object, maybe -/
def newOp : Op → Bool
  | .alloc _ | .box .. | .buildSlice .. | .makeMap .. | .makeSlice .. | .convert .. => true
  | _ => false
/-- what an operation waits for, as bits -/
def waitsM (l : List Edge) : Nat := match l with
  | [] => 0
  | e :: l => @Bool.rec (fun _ => Nat) (waitsM l) (addT (waitsM l) e.on) (Region.binds .any e)
def tmpsL : List Operand → List Nat
  | [] => []
  | .tmp t :: l => t :: tmpsL l
  | _ :: l => tmpsL l
/-- the temporaries that an operation looks at -/
def namesOf (ops : Array Oper) (o : Oper) : List Nat := match o.guard with
  | none => tmpsL o.op.operands.toList
  | some (j, _) => match dstOf ops j with
    | some t => t :: tmpsL o.op.operands.toList
    | none => tmpsL o.op.operands.toList
inductive OpI where | mk (am : Nat) (q r n asg : Bool) (nm : List Nat) (dst : Option Nat)
def opInfo (ops : Array Oper) (o : Oper) : OpI := .mk (waitsM o.after.toList) (quietOp o.op) (readsOp o.op) (newOp o.op) (assignOp o.op) (namesOf ops o) o.dst
def opInfos (ops : Array Oper) : List OpI := ops.toList.map (opInfo ops)
def OpI.am : OpI → Nat | .mk a _ _ _ _ _ _ => a
def OpI.q : OpI → Bool | .mk _ q _ _ _ _ _ => q
def OpI.r : OpI → Bool | .mk _ _ r _ _ _ _ => r
def OpI.n : OpI → Bool | .mk _ _ _ n _ _ _ => n
def OpI.asg : OpI → Bool | .mk _ _ _ _ s _ _ => s
def OpI.nm : OpI → List Nat | .mk _ _ _ _ _ l _ => l
def OpI.dst : OpI → Option Nat | .mk _ _ _ _ _ _ d => d
def subT (a b : Nat) : Bool := Nat.beq (Nat.land a b) a
def memN (t : Nat) : List Nat → Bool
  | [] => false
  | u :: l => Nat.beq t u || memN t l
def memO (d : Option Nat) (l : List Nat) : Bool := match d with | some t => memN t l | none => false
def sameO (d e : Option Nat) : Bool := match d, e with | some t, some u => Nat.beq t u | _, _ => false
/-- all others that are not done wait for one that is not done -/
def onlyB (done i : Nat) : List OpI → Nat → Bool
  | [], _ => true
  | o :: l, j => (hasT done j || Nat.beq i j || !subT o.am done) && onlyB done i l (Nat.add j 1)
/-- what stands surely ahead: back through the order -/
def ancM (is : List OpI) : List Nat → Nat → Nat
  | [], m => m
  | j :: l, m => ancM is l (if hasT m j then (match fget is j with | some o => Nat.lor m o.am | none => m) else m)
/-- the reads that are to be done again -/
def againB (done sure chk : Nat) : List OpI → Nat → Bool
  | [], _ => true
  | o :: l, j => (!o.r || !hasT done j || hasT sure j || hasT chk j) && againB done sure chk l (Nat.add j 1)
/-- what may be open yet writes nothing that o looks at, but what o waits for -/
def lookB (done sure : Nat) (o : OpI) : List OpI → Nat → Bool
  | [], _ => true
  | p :: l, j => (!hasT done j || hasT sure j || !memO p.dst o.nm || hasT o.am j) && lookB done sure o l (Nat.add j 1)
/-- what may be open yet does not look at what o writes -/
def writeB (done sure : Nat) (o : OpI) : List OpI → Nat → Bool
  | [], _ => true
  | p :: l, j => (!hasT done j || hasT sure j || (!memO o.dst p.nm && !sameO o.dst p.dst)) && writeB done sure o l (Nat.add j 1)
def chkM : List (Nat × Bool) → Nat → Nat
  | (j, true) :: l, m => chkM l (addT m j)
  | _, m => m
def ordB (is : List OpI) : List (Nat × Bool) → Nat → Nat → List Nat → Bool
  | [], done, _, _ => Nat.beq done (Nat.sub (Nat.shiftLeft 1 is.length) 1)
  | (i, true) :: l, done, sure, ex => hasT done i && ordB is l done sure ex
  | (i, false) :: l, done, sure, ex => match fget is i with
    | some o => !hasT done i && subT o.am done && lookB done sure o is 0 &&
      (@Bool.rec (fun _ => Bool)
        (onlyB done i is 0 && writeB done (addT (Nat.lor sure (ancM is ex o.am)) i) o is 0 && (o.asg || againB done (addT (Nat.lor sure (ancM is ex o.am)) i) (chkM l 0) is 0) && ordB is l (addT done i) (addT (Nat.lor sure (ancM is ex o.am)) i) (i :: ex))
        (!memO o.dst o.nm && writeB done sure o is 0 && (!o.n || againB done sure (chkM l 0) is 0) && ordB is l (addT done i) sure (i :: ex)) o.q)
    | none => false
def orderOk (ops : Array Oper) (l : List (Nat × Bool)) : Bool := ordB (opInfos ops) l 0 0 []
def eqV : AV → AV → Bool
  | .int k a, .int k' b => sameK k k' && zEq a b
  | .bool a, .bool b => a == b
  | .ptr a b c, .ptr a' b' c' => Nat.beq a a' && Nat.beq b b' && Nat.beq c c'
  | .sl b i l c o, .sl b' i' l' c' o' => Nat.beq b b' && Nat.beq i i' && Nat.beq l l' && Nat.beq c c' && o == o'
  | .str s, .str t => s == t
  | .nil, .nil => true
  | .cons h t, .cons h' t' => eqV h h' && eqV t t'
  | .agg l, .agg l' => eqV l l'
  | .oth g a b c d e f x y, .oth g' a' b' c' d' e' f' x' y' => Nat.beq g g' && Nat.beq a a' && Nat.beq b b' && Nat.beq c c' && Nat.beq d d' && Nat.beq e e' && Nat.beq f f' && eqV x x' && eqV y y'
  | _, _ => false
/-- what an operation that only looks answers, taken down -/
def askO (g : VO) (e : E16) (L : Loc) (hs : HS) (q : AV → Out) : Out := @Out.rec (fun _ => Out) .fail (fun v _ => q v) (fun _ _ _ _ _ _ _ => .fail) (g e L hs fun v => .done v hs)
def bVr (g : VO) (d : Fin) (k : Todo) : Blk := .mk fun ih e L fn fi s hs => askO g e L hs fun v => finK d v ih k e L fn fi s hs
def goBlkR : GO → DB → Todo → Blk := @GO.rec (fun _ => DB → Todo → Blk) (fun g d k => bVr g (finOf d) k) (fun g d k => bH g (finOf d) k) (fun _ _ => bBad)
/-- all that an operation looks at is known -/
def visB (fn : Nat) (ns : List Nat) : List Nat → Bool
  | [] => true
  | t :: l => (memN t ns || (hasT (slotsOf T fn) t && Nat.ble t 255)) && visB fn ns l
def cQuiet (fn : Nat) (ns : List Nat) (ops : Array Oper) (o : Oper) (d : DB) (k : Todo) : Blk := @Bool.rec (fun _ => Blk) bBad (match o.guard with
  | none => goBlkR (cOp P T o.op fn ns) d k
  | some (j, w) => match (dstOf ops j).bind fun t => cO T fn ns (.tmp t) with
    | some x => bGuard x w (goBlkR (cOp P T o.op fn ns) d k) (bUndef (finOf d) k)
    | none => bBad) (visB T fn ns (namesOf ops o))
/-- a read is done again: is it as it was? -/
def bChk (g : VO) (x : OB) (k : Todo) : Blk := .mk fun ih e L fn fi s hs => askO g e L hs fun v => ifO (eqV v (ev x e L)) (ih e k L fn fi s hs) .fail
def bSkip (k : Todo) : Blk := .mk fun ih e L fn fi s hs => ih e k L fn fi s hs
def cChk (fn : Nat) (ns : List Nat) (ops : Array Oper) (o : Oper) (k : Todo) : Blk :=
  match cOp P T o.op fn ns, o.dst.bind fun t => cO T fn ns (.tmp t) with
  | .v g, some x => (match o.guard with
    | none => bChk g x k
    | some (j, w) => match (dstOf ops j).bind fun t => cO T fn ns (.tmp t) with
      | some y => bGuard y w (bChk g x k) (bSkip k)
      | none => bBad)
  | _, _ => bBad

def exitToA (id : Nat) : Todo → Option Todo
  | .inBlock id' :: k => if Nat.beq id' id then some k else exitToA id k
  | _ :: k => exitToA id k
  | [] => none
def gotoInA (l : Nat) : Todo → Option Todo
  | .inScope body :: k => match findLabel body l with
    | some rest => some (.code rest :: .inScope body :: k)
    | none => gotoInA l k
  | _ :: k => gotoInA l k
  | [] => none
abbrev DK := (Todo → Blk) → Nat → Todo → Blk
def dSkip : DK := fun ih _ k => ih k
def dRegion (id : Nat) (ops : Array Oper) (draw : Bool) : DK := fun ih fn k => @Bool.rec (fun _ => Blk) (ih (.rg ops ops.toList [] :: k)) (match ordOf T fn id with | some l => @Bool.rec (fun _ => Blk) bBad (ih (.dr ops l [] :: k)) (orderOk ops l) | none => bBad) draw
def dCond (x : Operand) (a b : Code) : DK := fun _ fn k => match cO T fn [] x with | some x => bCond x (.code a :: k) (.code b :: k) | none => bBad
def dExit (id : Nat) : DK := fun ih _ k => match exitToA id k with | some k => ih k | none => bLeave P T (some (.exit id))
def dGoto (l : Nat) : DK := fun ih _ k => match gotoInA l k with | some k => ih k | none => bLeave P T (some (.goto l))
def dRangeF (f : Operand) (ps : Array Nat) (a b : Code) : DK := fun _ fn k => match cO T fn [] f with | some x => bRangeF P x ps.toList a b k | none => bBad
def dCode : Code → DK := @Code.rec (fun _ => DK) dSkip (fun id ops draw => dRegion T id ops draw) (fun a b _ _ ih _ k => ih (.code a :: .code b :: k)) (fun x a b _ _ => dCond T x a b)
  (fun id b _ ih _ k => ih (.code b :: .inBlock id :: k)) (fun b _ ih _ k => ih (.code b :: .inLoop b :: k)) (fun f ps a b _ _ => dRangeF P T f ps a b) (fun id => dExit P T id)
  (fun b _ ih _ k => ih (.code b :: .inScope b :: k)) (fun _ => dSkip) (fun l => dGoto P T l) (fun _ _ _ => bLeave P T (some .ret)) (fun _ _ _ _ => bBad)
def dRg (ops : Array Oper) (l : List Oper) (ns : List Nat) : DK := fun ih fn k => match l with
  | [] => ih k
  | o :: l => cGuarded P T fn ns ops o (cDst P T fn o.dst l.isEmpty) (.rg ops l (pushN T fn o.dst ns) :: k)
/-- behind a region: its own values are gone -/
def bDrop (b : Blk) : Blk := .mk fun ih e _ fn fi s hs => blkK b ih e .nil fn fi s hs
def dDr (ops : Array Oper) (l : List (Nat × Bool)) (ns : List Nat) : DK := fun ih fn k => match l with
  | [] => bDrop (ih k)
  | (i, chk) :: l => match fget ops.toList i with
    | some o => @Bool.rec (fun _ => Blk)
        (@Bool.rec (fun _ => Blk) (cGuarded P T fn ns ops o (cDst P T fn o.dst false) (.dr ops l (pushN T fn o.dst ns) :: k)) (cQuiet P T fn ns ops o (cDst P T fn o.dst false) (.dr ops l (pushN T fn o.dst ns) :: k)) (quietOp o.op))
        (cChk P T fn ns ops o (.dr ops l ns :: k)) chk
    | none => bBad
def dItem : AIt → DK := @AIt.rec (fun _ => DK) (dCode P T) (fun _ => dSkip) (fun c ih _ k => ih (.code c :: .inLoop c :: k)) (fun _ => dSkip) (dRg P T) (dDr P T) (fun l _ _ k => bEndRF l k) (fun _ _ k => bBegR k)
def decode (fn : Nat) : Nat → Todo → Blk := @Nat.rec (fun _ => Todo → Blk) (fun _ => bBad) (fun _ ih k => @List.rec AIt (fun _ => Blk) (bLeave P T none) (fun it t _ => dItem P T it ih fn t) k)
def run : Nat → K := @Nat.rec (fun _ => K) (fun e k L fn fi s hs => .more e k L fn fi s hs) (fun _ ih e k L fn fi s hs => blkK (decode P T fn 1000 k) ih e L fn fi s hs)
end
end
end Go.AbsK
