/- Part 23 of the proof of lawSum.card: EvDef. Conditions: those of each theorem. -/
import Derived.Test.YthejfklieedjmaaGreatDoorProg
import Derived.Calls
import Derived.Orders
import Derived.KernelRfl
import Derived.Test.YthejfklieedjmaaGreatDoorQs01
namespace Go.Proofs.YthejfklieedjmaaGreatDoor
open Go
noncomputable section
inductive D16 where
 | d0 | d1 | d2 | d3 | d4 | d5 | d6 | d7 | d8 | d9 | d10 | d11 | d12 | d13 | d14 | d15
 deriving DecidableEq
structure TV where
 a0 : Value
 a1 : Value
 a2 : Value
 a3 : Value
 a4 : Value
 a5 : Value
 a6 : Value
 a7 : Value
 a8 : Value
 a9 : Value
 a10 : Value
 a11 : Value
 a12 : Value
 a13 : Value
 a14 : Value
 a15 : Value
def TV.g0 (t : TV) : Value := t.a0
def TV.g1 (t : TV) : Value := t.a1
def TV.g2 (t : TV) : Value := t.a2
def TV.g3 (t : TV) : Value := t.a3
def TV.g4 (t : TV) : Value := t.a4
def TV.g5 (t : TV) : Value := t.a5
def TV.g6 (t : TV) : Value := t.a6
def TV.g7 (t : TV) : Value := t.a7
def TV.g8 (t : TV) : Value := t.a8
def TV.g9 (t : TV) : Value := t.a9
def TV.g10 (t : TV) : Value := t.a10
def TV.g11 (t : TV) : Value := t.a11
def TV.g12 (t : TV) : Value := t.a12
def TV.g13 (t : TV) : Value := t.a13
def TV.g14 (t : TV) : Value := t.a14
def TV.g15 (t : TV) : Value := t.a15
def TV.p0 (v : Value) (t : TV) : TV := TV.rec (motive := fun _ => Value -> TV) (fun _ a1 a2 a3 a4 a5 a6 a7 a8 a9 a10 a11 a12 a13 a14 a15 v => ⟨v, a1, a2, a3, a4, a5, a6, a7, a8, a9, a10, a11, a12, a13, a14, a15⟩) t v
def TV.p1 (v : Value) (t : TV) : TV := TV.rec (motive := fun _ => Value -> TV) (fun a0 _ a2 a3 a4 a5 a6 a7 a8 a9 a10 a11 a12 a13 a14 a15 v => ⟨a0, v, a2, a3, a4, a5, a6, a7, a8, a9, a10, a11, a12, a13, a14, a15⟩) t v
def TV.p2 (v : Value) (t : TV) : TV := TV.rec (motive := fun _ => Value -> TV) (fun a0 a1 _ a3 a4 a5 a6 a7 a8 a9 a10 a11 a12 a13 a14 a15 v => ⟨a0, a1, v, a3, a4, a5, a6, a7, a8, a9, a10, a11, a12, a13, a14, a15⟩) t v
def TV.p3 (v : Value) (t : TV) : TV := TV.rec (motive := fun _ => Value -> TV) (fun a0 a1 a2 _ a4 a5 a6 a7 a8 a9 a10 a11 a12 a13 a14 a15 v => ⟨a0, a1, a2, v, a4, a5, a6, a7, a8, a9, a10, a11, a12, a13, a14, a15⟩) t v
def TV.p4 (v : Value) (t : TV) : TV := TV.rec (motive := fun _ => Value -> TV) (fun a0 a1 a2 a3 _ a5 a6 a7 a8 a9 a10 a11 a12 a13 a14 a15 v => ⟨a0, a1, a2, a3, v, a5, a6, a7, a8, a9, a10, a11, a12, a13, a14, a15⟩) t v
def TV.p5 (v : Value) (t : TV) : TV := TV.rec (motive := fun _ => Value -> TV) (fun a0 a1 a2 a3 a4 _ a6 a7 a8 a9 a10 a11 a12 a13 a14 a15 v => ⟨a0, a1, a2, a3, a4, v, a6, a7, a8, a9, a10, a11, a12, a13, a14, a15⟩) t v
def TV.p6 (v : Value) (t : TV) : TV := TV.rec (motive := fun _ => Value -> TV) (fun a0 a1 a2 a3 a4 a5 _ a7 a8 a9 a10 a11 a12 a13 a14 a15 v => ⟨a0, a1, a2, a3, a4, a5, v, a7, a8, a9, a10, a11, a12, a13, a14, a15⟩) t v
def TV.p7 (v : Value) (t : TV) : TV := TV.rec (motive := fun _ => Value -> TV) (fun a0 a1 a2 a3 a4 a5 a6 _ a8 a9 a10 a11 a12 a13 a14 a15 v => ⟨a0, a1, a2, a3, a4, a5, a6, v, a8, a9, a10, a11, a12, a13, a14, a15⟩) t v
def TV.p8 (v : Value) (t : TV) : TV := TV.rec (motive := fun _ => Value -> TV) (fun a0 a1 a2 a3 a4 a5 a6 a7 _ a9 a10 a11 a12 a13 a14 a15 v => ⟨a0, a1, a2, a3, a4, a5, a6, a7, v, a9, a10, a11, a12, a13, a14, a15⟩) t v
def TV.p9 (v : Value) (t : TV) : TV := TV.rec (motive := fun _ => Value -> TV) (fun a0 a1 a2 a3 a4 a5 a6 a7 a8 _ a10 a11 a12 a13 a14 a15 v => ⟨a0, a1, a2, a3, a4, a5, a6, a7, a8, v, a10, a11, a12, a13, a14, a15⟩) t v
def TV.p10 (v : Value) (t : TV) : TV := TV.rec (motive := fun _ => Value -> TV) (fun a0 a1 a2 a3 a4 a5 a6 a7 a8 a9 _ a11 a12 a13 a14 a15 v => ⟨a0, a1, a2, a3, a4, a5, a6, a7, a8, a9, v, a11, a12, a13, a14, a15⟩) t v
def TV.p11 (v : Value) (t : TV) : TV := TV.rec (motive := fun _ => Value -> TV) (fun a0 a1 a2 a3 a4 a5 a6 a7 a8 a9 a10 _ a12 a13 a14 a15 v => ⟨a0, a1, a2, a3, a4, a5, a6, a7, a8, a9, a10, v, a12, a13, a14, a15⟩) t v
def TV.p12 (v : Value) (t : TV) : TV := TV.rec (motive := fun _ => Value -> TV) (fun a0 a1 a2 a3 a4 a5 a6 a7 a8 a9 a10 a11 _ a13 a14 a15 v => ⟨a0, a1, a2, a3, a4, a5, a6, a7, a8, a9, a10, a11, v, a13, a14, a15⟩) t v
def TV.p13 (v : Value) (t : TV) : TV := TV.rec (motive := fun _ => Value -> TV) (fun a0 a1 a2 a3 a4 a5 a6 a7 a8 a9 a10 a11 a12 _ a14 a15 v => ⟨a0, a1, a2, a3, a4, a5, a6, a7, a8, a9, a10, a11, a12, v, a14, a15⟩) t v
def TV.p14 (v : Value) (t : TV) : TV := TV.rec (motive := fun _ => Value -> TV) (fun a0 a1 a2 a3 a4 a5 a6 a7 a8 a9 a10 a11 a12 a13 _ a15 v => ⟨a0, a1, a2, a3, a4, a5, a6, a7, a8, a9, a10, a11, a12, a13, v, a15⟩) t v
def TV.p15 (v : Value) (t : TV) : TV := TV.rec (motive := fun _ => Value -> TV) (fun a0 a1 a2 a3 a4 a5 a6 a7 a8 a9 a10 a11 a12 a13 a14 _ v => ⟨a0, a1, a2, a3, a4, a5, a6, a7, a8, a9, a10, a11, a12, a13, a14, v⟩) t v
def TV.get (d : D16) (t : TV) : Value := D16.rec (motive := fun _ => TV -> Value) TV.g0 TV.g1 TV.g2 TV.g3 TV.g4 TV.g5 TV.g6 TV.g7 TV.g8 TV.g9 TV.g10 TV.g11 TV.g12 TV.g13 TV.g14 TV.g15 d t
def TV.set (d : D16) (v : Value) (t : TV) : TV := D16.rec (motive := fun _ => Value -> TV -> TV) TV.p0 TV.p1 TV.p2 TV.p3 TV.p4 TV.p5 TV.p6 TV.p7 TV.p8 TV.p9 TV.p10 TV.p11 TV.p12 TV.p13 TV.p14 TV.p15 d v t
structure TF where
 a0 : TV
 a1 : TV
 a2 : TV
 a3 : TV
 a4 : TV
 a5 : TV
 a6 : TV
 a7 : TV
 a8 : TV
 a9 : TV
 a10 : TV
 a11 : TV
 a12 : TV
 a13 : TV
 a14 : TV
 a15 : TV
def TF.g0 (t : TF) : TV := t.a0
def TF.g1 (t : TF) : TV := t.a1
def TF.g2 (t : TF) : TV := t.a2
def TF.g3 (t : TF) : TV := t.a3
def TF.g4 (t : TF) : TV := t.a4
def TF.g5 (t : TF) : TV := t.a5
def TF.g6 (t : TF) : TV := t.a6
def TF.g7 (t : TF) : TV := t.a7
def TF.g8 (t : TF) : TV := t.a8
def TF.g9 (t : TF) : TV := t.a9
def TF.g10 (t : TF) : TV := t.a10
def TF.g11 (t : TF) : TV := t.a11
def TF.g12 (t : TF) : TV := t.a12
def TF.g13 (t : TF) : TV := t.a13
def TF.g14 (t : TF) : TV := t.a14
def TF.g15 (t : TF) : TV := t.a15
def TF.p0 (v : TV) (t : TF) : TF := TF.rec (motive := fun _ => TV -> TF) (fun _ a1 a2 a3 a4 a5 a6 a7 a8 a9 a10 a11 a12 a13 a14 a15 v => ⟨v, a1, a2, a3, a4, a5, a6, a7, a8, a9, a10, a11, a12, a13, a14, a15⟩) t v
def TF.p1 (v : TV) (t : TF) : TF := TF.rec (motive := fun _ => TV -> TF) (fun a0 _ a2 a3 a4 a5 a6 a7 a8 a9 a10 a11 a12 a13 a14 a15 v => ⟨a0, v, a2, a3, a4, a5, a6, a7, a8, a9, a10, a11, a12, a13, a14, a15⟩) t v
def TF.p2 (v : TV) (t : TF) : TF := TF.rec (motive := fun _ => TV -> TF) (fun a0 a1 _ a3 a4 a5 a6 a7 a8 a9 a10 a11 a12 a13 a14 a15 v => ⟨a0, a1, v, a3, a4, a5, a6, a7, a8, a9, a10, a11, a12, a13, a14, a15⟩) t v
def TF.p3 (v : TV) (t : TF) : TF := TF.rec (motive := fun _ => TV -> TF) (fun a0 a1 a2 _ a4 a5 a6 a7 a8 a9 a10 a11 a12 a13 a14 a15 v => ⟨a0, a1, a2, v, a4, a5, a6, a7, a8, a9, a10, a11, a12, a13, a14, a15⟩) t v
def TF.p4 (v : TV) (t : TF) : TF := TF.rec (motive := fun _ => TV -> TF) (fun a0 a1 a2 a3 _ a5 a6 a7 a8 a9 a10 a11 a12 a13 a14 a15 v => ⟨a0, a1, a2, a3, v, a5, a6, a7, a8, a9, a10, a11, a12, a13, a14, a15⟩) t v
def TF.p5 (v : TV) (t : TF) : TF := TF.rec (motive := fun _ => TV -> TF) (fun a0 a1 a2 a3 a4 _ a6 a7 a8 a9 a10 a11 a12 a13 a14 a15 v => ⟨a0, a1, a2, a3, a4, v, a6, a7, a8, a9, a10, a11, a12, a13, a14, a15⟩) t v
def TF.p6 (v : TV) (t : TF) : TF := TF.rec (motive := fun _ => TV -> TF) (fun a0 a1 a2 a3 a4 a5 _ a7 a8 a9 a10 a11 a12 a13 a14 a15 v => ⟨a0, a1, a2, a3, a4, a5, v, a7, a8, a9, a10, a11, a12, a13, a14, a15⟩) t v
def TF.p7 (v : TV) (t : TF) : TF := TF.rec (motive := fun _ => TV -> TF) (fun a0 a1 a2 a3 a4 a5 a6 _ a8 a9 a10 a11 a12 a13 a14 a15 v => ⟨a0, a1, a2, a3, a4, a5, a6, v, a8, a9, a10, a11, a12, a13, a14, a15⟩) t v
def TF.p8 (v : TV) (t : TF) : TF := TF.rec (motive := fun _ => TV -> TF) (fun a0 a1 a2 a3 a4 a5 a6 a7 _ a9 a10 a11 a12 a13 a14 a15 v => ⟨a0, a1, a2, a3, a4, a5, a6, a7, v, a9, a10, a11, a12, a13, a14, a15⟩) t v
def TF.p9 (v : TV) (t : TF) : TF := TF.rec (motive := fun _ => TV -> TF) (fun a0 a1 a2 a3 a4 a5 a6 a7 a8 _ a10 a11 a12 a13 a14 a15 v => ⟨a0, a1, a2, a3, a4, a5, a6, a7, a8, v, a10, a11, a12, a13, a14, a15⟩) t v
def TF.p10 (v : TV) (t : TF) : TF := TF.rec (motive := fun _ => TV -> TF) (fun a0 a1 a2 a3 a4 a5 a6 a7 a8 a9 _ a11 a12 a13 a14 a15 v => ⟨a0, a1, a2, a3, a4, a5, a6, a7, a8, a9, v, a11, a12, a13, a14, a15⟩) t v
def TF.p11 (v : TV) (t : TF) : TF := TF.rec (motive := fun _ => TV -> TF) (fun a0 a1 a2 a3 a4 a5 a6 a7 a8 a9 a10 _ a12 a13 a14 a15 v => ⟨a0, a1, a2, a3, a4, a5, a6, a7, a8, a9, a10, v, a12, a13, a14, a15⟩) t v
def TF.p12 (v : TV) (t : TF) : TF := TF.rec (motive := fun _ => TV -> TF) (fun a0 a1 a2 a3 a4 a5 a6 a7 a8 a9 a10 a11 _ a13 a14 a15 v => ⟨a0, a1, a2, a3, a4, a5, a6, a7, a8, a9, a10, a11, v, a13, a14, a15⟩) t v
def TF.p13 (v : TV) (t : TF) : TF := TF.rec (motive := fun _ => TV -> TF) (fun a0 a1 a2 a3 a4 a5 a6 a7 a8 a9 a10 a11 a12 _ a14 a15 v => ⟨a0, a1, a2, a3, a4, a5, a6, a7, a8, a9, a10, a11, a12, v, a14, a15⟩) t v
def TF.p14 (v : TV) (t : TF) : TF := TF.rec (motive := fun _ => TV -> TF) (fun a0 a1 a2 a3 a4 a5 a6 a7 a8 a9 a10 a11 a12 a13 _ a15 v => ⟨a0, a1, a2, a3, a4, a5, a6, a7, a8, a9, a10, a11, a12, a13, v, a15⟩) t v
def TF.p15 (v : TV) (t : TF) : TF := TF.rec (motive := fun _ => TV -> TF) (fun a0 a1 a2 a3 a4 a5 a6 a7 a8 a9 a10 a11 a12 a13 a14 _ v => ⟨a0, a1, a2, a3, a4, a5, a6, a7, a8, a9, a10, a11, a12, a13, a14, v⟩) t v
def TF.get (d : D16) (t : TF) : TV := D16.rec (motive := fun _ => TF -> TV) TF.g0 TF.g1 TF.g2 TF.g3 TF.g4 TF.g5 TF.g6 TF.g7 TF.g8 TF.g9 TF.g10 TF.g11 TF.g12 TF.g13 TF.g14 TF.g15 d t
def TF.set (d : D16) (v : TV) (t : TF) : TF := D16.rec (motive := fun _ => TV -> TF -> TF) TF.p0 TF.p1 TF.p2 TF.p3 TF.p4 TF.p5 TF.p6 TF.p7 TF.p8 TF.p9 TF.p10 TF.p11 TF.p12 TF.p13 TF.p14 TF.p15 d v t
def D16.of (n : Nat) : D16 := bif Nat.beq (n % 2) 0 then (bif Nat.beq ((n / 2) % 2) 0 then (bif Nat.beq (((n / 2) / 2) % 2) 0 then (bif Nat.beq ((((n / 2) / 2) / 2) % 2) 0 then (.d0) else (.d8)) else (bif Nat.beq ((((n / 2) / 2) / 2) % 2) 0 then (.d4) else (.d12))) else (bif Nat.beq (((n / 2) / 2) % 2) 0 then (bif Nat.beq ((((n / 2) / 2) / 2) % 2) 0 then (.d2) else (.d10)) else (bif Nat.beq ((((n / 2) / 2) / 2) % 2) 0 then (.d6) else (.d14)))) else (bif Nat.beq ((n / 2) % 2) 0 then (bif Nat.beq (((n / 2) / 2) % 2) 0 then (bif Nat.beq ((((n / 2) / 2) / 2) % 2) 0 then (.d1) else (.d9)) else (bif Nat.beq ((((n / 2) / 2) / 2) % 2) 0 then (.d5) else (.d13))) else (bif Nat.beq (((n / 2) / 2) % 2) 0 then (bif Nat.beq ((((n / 2) / 2) / 2) % 2) 0 then (.d3) else (.d11)) else (bif Nat.beq ((((n / 2) / 2) / 2) % 2) 0 then (.d7) else (.d15))))
structure Pl where
 hi : D16
 lo : D16
 deriving DecidableEq
def pl (t : Nat) : Pl := ⟨.of (t / 16), .of (t % 16)⟩
def getT (p : Pl) (T : TF) : Value := Pl.rec (motive := fun _ => TF -> Value) (fun h l T => D16.rec (motive := fun _ => TV -> Value) TV.g0 TV.g1 TV.g2 TV.g3 TV.g4 TV.g5 TV.g6 TV.g7 TV.g8 TV.g9 TV.g10 TV.g11 TV.g12 TV.g13 TV.g14 TV.g15 l (D16.rec (motive := fun _ => TF -> TV) TF.g0 TF.g1 TF.g2 TF.g3 TF.g4 TF.g5 TF.g6 TF.g7 TF.g8 TF.g9 TF.g10 TF.g11 TF.g12 TF.g13 TF.g14 TF.g15 h T)) p T
def setT (p : Pl) (v : Value) (T : TF) : TF := Pl.rec (motive := fun _ => Value -> TF -> TF) (fun h l v T => D16.rec (motive := fun _ => TV -> TF -> TF) TF.p0 TF.p1 TF.p2 TF.p3 TF.p4 TF.p5 TF.p6 TF.p7 TF.p8 TF.p9 TF.p10 TF.p11 TF.p12 TF.p13 TF.p14 TF.p15 h (D16.rec (motive := fun _ => Value -> TV -> TV) TV.p0 TV.p1 TV.p2 TV.p3 TV.p4 TV.p5 TV.p6 TV.p7 TV.p8 TV.p9 TV.p10 TV.p11 TV.p12 TV.p13 TV.p14 TV.p15 l v (D16.rec (motive := fun _ => TF -> TV) TF.g0 TF.g1 TF.g2 TF.g3 TF.g4 TF.g5 TF.g6 TF.g7 TF.g8 TF.g9 TF.g10 TF.g11 TF.g12 TF.g13 TF.g14 TF.g15 h T)) T) p v T
def undT : TF := ⟨⟨undef, undef, undef, undef, undef, undef, undef, undef, undef, undef, undef, undef, undef, undef, undef, undef⟩, ⟨undef, undef, undef, undef, undef, undef, undef, undef, undef, undef, undef, undef, undef, undef, undef, undef⟩, ⟨undef, undef, undef, undef, undef, undef, undef, undef, undef, undef, undef, undef, undef, undef, undef, undef⟩, ⟨undef, undef, undef, undef, undef, undef, undef, undef, undef, undef, undef, undef, undef, undef, undef, undef⟩, ⟨undef, undef, undef, undef, undef, undef, undef, undef, undef, undef, undef, undef, undef, undef, undef, undef⟩, ⟨undef, undef, undef, undef, undef, undef, undef, undef, undef, undef, undef, undef, undef, undef, undef, undef⟩, ⟨undef, undef, undef, undef, undef, undef, undef, undef, undef, undef, undef, undef, undef, undef, undef, undef⟩, ⟨undef, undef, undef, undef, undef, undef, undef, undef, undef, undef, undef, undef, undef, undef, undef, undef⟩, ⟨undef, undef, undef, undef, undef, undef, undef, undef, undef, undef, undef, undef, undef, undef, undef, undef⟩, ⟨undef, undef, undef, undef, undef, undef, undef, undef, undef, undef, undef, undef, undef, undef, undef, undef⟩, ⟨undef, undef, undef, undef, undef, undef, undef, undef, undef, undef, undef, undef, undef, undef, undef, undef⟩, ⟨undef, undef, undef, undef, undef, undef, undef, undef, undef, undef, undef, undef, undef, undef, undef, undef⟩, ⟨undef, undef, undef, undef, undef, undef, undef, undef, undef, undef, undef, undef, undef, undef, undef, undef⟩, ⟨undef, undef, undef, undef, undef, undef, undef, undef, undef, undef, undef, undef, undef, undef, undef, undef⟩, ⟨undef, undef, undef, undef, undef, undef, undef, undef, undef, undef, undef, undef, undef, undef, undef, undef⟩, ⟨undef, undef, undef, undef, undef, undef, undef, undef, undef, undef, undef, undef, undef, undef, undef, undef⟩⟩
inductive Tr (α : Type) where
 | nil
 | node (v : Option α) (l r : Tr α)
abbrev Path := List Bool
noncomputable def pathF : Nat -> Nat -> Path := Nat.rec (fun _ => []) (fun _ ih n => bif Nat.beq n 0 then [] else bif Nat.beq (n % 2) 1 then true :: ih (n / 2) else false :: ih (n / 2 - 1))
noncomputable def path (n : Nat) : Path := pathF 24 n
noncomputable def getP {α : Type} (t : Tr α) : Path -> Option α :=
 Tr.rec (motive := fun _ => Path -> Option α) (fun _ => none) (fun v _ _ gl gr p => List.rec (motive := fun _ => Option α) v (fun b q _ => Bool.rec (motive := fun _ => Option α) (gr q) (gl q) b) p) t
noncomputable def setP {α : Type} (x : α) (p : Path) : Tr α -> Tr α :=
 List.rec (motive := fun _ => Tr α -> Tr α)
  (fun t => Tr.rec (motive := fun _ => Tr α) (.node (some x) .nil .nil) (fun _ l r _ _ => .node (some x) l r) t)
  (fun b _ ih t => Bool.rec (motive := fun _ => Tr α) (Tr.rec (motive := fun _ => Tr α) (.node none .nil (ih .nil)) (fun v l r _ _ => .node v l (ih r)) t) (Tr.rec (motive := fun _ => Tr α) (.node none (ih .nil) .nil) (fun v l r _ _ => .node v (ih l) r) t) b) p
inductive AO where
 | cells (n : Nat) (t : Tr Value) (ty : TypeId)
 | map (es : List (Value × Value))
 | gone
 | tab (n : Nat) (t : Tr Value)
abbrev HH := Tr AO
structure Me where
 H : HH
 c : Nat
 A : Nat
 W : Nat
inductive R where
 | ok (v : Value) (m : Me)
 | no (c : List Nat)
abbrev KV := Value -> Me -> R
abbrev OpF := TF -> Me -> KV -> R
inductive Opd where
 | t (p : Pl)
 | v (v : Value)
noncomputable def opd (x : Opd) (T : TF) : Value := Opd.rec (motive := fun _ => TF -> Value) getT (fun v _ => v) x T
inductive I where
 | mov (x : Opd)
 | pick (c a b : Opd)
 | new (n : Nat) (tr : Tr Value) (ty : TypeId)
 | box (x : Opd) (ty : TypeId)
 | bld (z : List Value) (ps : List (Nat × Nat × Opd))
 | bls (len n : Nat) (tr : Tr Value) (ps : List (Nat × Nat × Opd)) (ty : TypeId)
 | ld (ag : Bool) (k : Nat) (x : Opd)
 | st (k : Nat) (x v : Opd)
 | nilc (x : Opd)
 | bin (op : BinOp) (kd : Nat) (x y : Opd) (o : Oper)
 | flt (xs : List Opd) (o : Oper)
 | mki (t : TypeId) (x : Opd)
 | mkf (f : FuncId) (a b : List Opd)
 | mkm
 | ins (ks : Bool) (m k v : Opd)
 | lkp (ks : Bool) (z : Value) (ok : Bool) (m k : Opd)
 | mks (k : Nat) (z : List Value) (ty : TypeId) (l c : Opd)
 | sls (k : Nat) (x : Opd) (lo hi : Option Opd)
 | slt (x : Opd) (lo hi : Option Opd)
 | sla (n k : Nat) (x : Opd) (lo hi : Option Opd)
 | fad (off : Nat) (x : Opd)
 | fld (ag : Bool) (k off : Nat) (x : Opd)
 | ias (k : Nat) (x i : Opd)
 | iaa (len k : Nat) (x i : Opd)
 | ixs (x i : Opd)
 | ixa (len : Nat) (ag : Bool) (k : Nat) (x i : Opd)
 | tas (t : TypeId) (z : Option Value) (x : Opd)
 | ext (i : Nat) (x : Opd)
 | len (st : Bool) (x : Opd)
 | app (k : Nat) (ty : TypeId) (s x : Opd)
 | bad (n : List Nat)
 | cal (f : Opd) (xs : List Opd)
 | sb (x : Opd)
 | bs (x : Opd)
inductive IL where
 | nil
 | mv (d : Pl) (x : Opd) (r : IL)
 | n (i : I) (r : IL)
 | bad (n : List Nat)
 | dfr (f : Opd) (r : IL)
 | p (d : Pl) (i : I) (r : IL)
 | g (q : Pl) (w : Bool) (d : Pl) (i : I) (r : IL)
inductive IC where
 | skip
 | reg (l : IL)
 | drw (l : List (IL × Bool)) (ps : List (Nat × Nat))
 | seq (a b : IC)
 | cond (c : Opd) (a b : IC)
 | block (id : Nat) (b : IC)
 | loop (b : IC)
 | exit (id : Nat)
 | ret
 | bad (n : List Nat)
inductive RV where
 | t (p : Pl)
 | c (p : Pl) (ag : Bool) (k : Nat)
inductive FI where
 | f (n : Nat) (c : IC) (rs : List RV)
 | bad (n : List Nat)
inductive EvEx where
 | normal
 | exit (id : Nat)
 | ret
noncomputable def seqN (n : Nat) (b : R) : R := bif Nat.beq n 0 then b else b
noncomputable def seqI (n : Int) (b : R) : R := Int.rec (motive := fun _ => R) (fun m => seqN m b) (fun m => seqN m b) n
noncomputable def bit (n : Nat) : Nat := Nat.shiftLeft 1 n
noncomputable def lookE (n : Nat) (m : Me) (k : AO -> Me -> R) : R := Me.rec (motive := fun _ => R) (fun H c A W => Option.rec (motive := fun _ => R) (.no [1, n]) (fun o => seqN (Nat.lor A (bit n)) (k o ⟨H, c, Nat.lor A (bit n), W⟩)) (getP H (path n))) m
noncomputable def put (n : Nat) (o : AO) (m : Me) (k : Me -> R) : R := Me.rec (motive := fun _ => R) (fun H c A W => bif Nat.blt n c then seqN (Nat.lor W (bit n)) (k ⟨setP o (path n) H, c, A, Nat.lor W (bit n)⟩) else .no [2, n]) m
noncomputable def LIM : Nat := 10000000
noncomputable def newO (o : AO) (m : Me) (k : Nat -> Me -> R) : R := Me.rec (motive := fun _ => R) (fun H c A W => bif Nat.ble c LIM then seqN (c + 1) (k c ⟨setP o (path c) H, c + 1, A, W⟩) else .no [2]) m
noncomputable def mapO (T : TF) (l : List Opd) : List Value := List.rec (motive := fun _ => List Value) [] (fun x _ ih => opd x T :: ih) l
noncomputable def appL {α : Type} (a b : List α) : List α := List.rec (motive := fun _ => List α) b (fun x _ ih => x :: ih) a
noncomputable def lenL {α : Type} (a : List α) : Nat := List.rec (motive := fun _ => Nat) 0 (fun _ _ ih => ih + 1) a
noncomputable def dropL {α : Type} (n : Nat) : List α -> List α := Nat.rec (motive := fun _ => List α -> List α) (fun l => l) (fun _ ih l => List.rec (motive := fun _ => List α) [] (fun _ r _ => ih r) l) n
noncomputable def takeL {α : Type} (n : Nat) : List α -> List α := Nat.rec (motive := fun _ => List α -> List α) (fun _ => []) (fun _ ih l => List.rec (motive := fun _ => List α) [] (fun x r _ => x :: ih r) l) n
noncomputable def getI {α : Type} (n : Nat) : List α -> Option α := Nat.rec (motive := fun _ => List α -> Option α) (fun l => List.rec (motive := fun _ => Option α) none (fun x _ _ => some x) l) (fun _ ih l => List.rec (motive := fun _ => Option α) none (fun _ r _ => ih r) l) n
noncomputable def putL (l : List Value) : Nat -> Tr Value -> Tr Value := List.rec (motive := fun _ => Nat -> Tr Value -> Tr Value) (fun _ t => t) (fun v _ ih i t => ih (i + 1) (setP v (path i) t)) l
noncomputable def getL (tr : Tr Value) (n : Nat) : Nat -> (List Value -> R) -> R := Nat.rec (motive := fun _ => Nat -> (List Value -> R) -> R) (fun _ k => k []) (fun _ ih o k => Option.rec (motive := fun _ => R) (.no [4, o]) (fun v => ih (o + 1) (fun l => k (v :: l))) (getP tr (path o))) n
noncomputable def cellsL : Value -> List Value
 | .agg ⟨cs⟩ => cs
 | v => [v]
noncomputable def oneB : Value -> Bool
 | .agg _ => false
 | .tuple _ => false
 | _ => true
noncomputable def allL {α : Type} (p : α -> Bool) (l : List α) : Bool := List.rec (motive := fun _ => Bool) true (fun x _ ih => bif p x then ih else false) l
mutual
noncomputable def flat : Value -> Bool
 | .agg ⟨l⟩ => flatL l
 | .tuple ⟨l⟩ => flatL l
 | .pointer none => true
 | .slice none _ _ => true
 | .map none => true
 | .bool _ => true
 | .int _ _ => true
 | .string _ => true
 | .nilFunc => true
 | .nilIface => true
 | .iface _ v => flat v
 | .func (.func _) ⟨a⟩ ⟨b⟩ => flatL a && flatL b
 | _ => false
noncomputable def flatL : List Value -> Bool
 | [] => true
 | v :: l => flat v && flatL l
end
noncomputable def OPEN : Nat := 2 ^ 80
noncomputable def vPtr (v : Value) (k : Nat -> Nat -> R) : R :=
 match v with
 | .pointer (some ⟨n, o, none⟩) => k n o
 | _ => .no [64]
noncomputable def vNat (v : Value) (k : Nat -> R) : R :=
 match v with
 | .int _ (.ofNat n) => k n
 | _ => .no [17]
noncomputable def oCells (o : AO) (k : Nat -> Tr Value -> TypeId -> R) : R := AO.rec (motive := fun _ => R) k (fun _ => .no [11]) (.no [11]) (fun _ _ => .no [14]) o
noncomputable def oRead (o : AO) (k : Nat -> Tr Value -> R) : R := AO.rec (motive := fun _ => R) (fun z t _ => k z t) (fun _ => .no [11]) (.no [11]) k o
noncomputable def oGet (o : Option Value) (n : Nat) (k : Value -> R) : R := Option.rec (motive := fun _ => R) (.no [n]) k o
noncomputable def opMov (x : Opd) : OpF := fun T m k => k (opd x T) m
noncomputable def opPick (x a b : Opd) : OpF := fun T m k => match opd x T with
 | .bool t => k (opd (bif t then a else b) T) m
 | _ => .no [60]
noncomputable def ptr (n : Nat) : Value := .pointer (some ⟨n, 0, none⟩)
noncomputable def opNew (n : Nat) (tr : Tr Value) (ty : TypeId) : OpF := fun _ m k => newO (.cells n tr ty) m fun d m => k (.pointer (some ⟨d, 0, none⟩)) m
noncomputable def newL (l : List Value) (ty : TypeId) (m : Me) (k : Nat -> Me -> R) : R := bif Nat.ble (lenL l) LIM then newO (.cells (lenL l) (putL l 0 .nil) ty) m k else .no [3]
noncomputable def opBox (x : Opd) (ty : TypeId) : OpF := fun T m k => newL (cellsL (opd x T)) ty m fun d m => k (.pointer (some ⟨d, 0, none⟩)) m
noncomputable def overL (l : List Value) (n : Nat) (z : List Value) : List Value := appL (takeL n z) (appL l (dropL (n + lenL l) z))
noncomputable def bldL (T : TF) (ps : List (Nat × Nat × Opd)) : List Value -> (List Value -> R) -> R := List.rec (motive := fun _ => List Value -> (List Value -> R) -> R) (fun z k => k z)
 (fun p _ ih z k => bif Nat.beq (lenL (cellsL (opd p.2.2 T))) p.2.1 && Nat.ble (p.1 + p.2.1) (lenL z) then ih (overL (cellsL (opd p.2.2 T)) p.1 z) k else .no [61]) ps
noncomputable def opBld (z : List Value) (ps : List (Nat × Nat × Opd)) : OpF := fun T m k => bldL T ps z fun l => k (.agg ⟨l⟩) m
noncomputable def blsL (T : TF) (n : Nat) (ps : List (Nat × Nat × Opd)) : Tr Value -> (Tr Value -> R) -> R := List.rec (motive := fun _ => Tr Value -> (Tr Value -> R) -> R) (fun z k => k z)
 (fun p _ ih z k => bif Nat.beq (lenL (cellsL (opd p.2.2 T))) p.2.1 && Nat.ble (p.1 + p.2.1) n then ih (putL (cellsL (opd p.2.2 T)) p.1 z) k else .no [62]) ps
noncomputable def opBls (len n : Nat) (tr : Tr Value) (ps : List (Nat × Nat × Opd)) (ty : TypeId) : OpF := fun T m k => blsL T n ps tr fun tr => newO (.cells n tr ty) m fun d m => k (.slice (some ⟨d, 0, none⟩) len len) m
noncomputable def ldC (ag : Bool) (n o z : Nat) (tr : Tr Value) (k : Value -> R) : R := Bool.rec (motive := fun _ => R) (bif Nat.blt o z then oGet (getP tr (path o)) 10 k else .no [11]) (bif Nat.ble (o + n) z then getL tr n o fun l => k (.agg ⟨l⟩) else .no [11]) ag
noncomputable def opLd (ag : Bool) (s : Nat) (x : Opd) : OpF := fun T m k => vPtr (opd x T) fun n o => lookE n m fun ob m => oRead ob fun z tr => ldC ag s o z tr fun v => k v m
noncomputable def opSt (s : Nat) (x v : Opd) : OpF := fun T m k => vPtr (opd x T) fun n o => lookE n m fun ob m => oCells ob fun z tr ty =>
 bif Nat.beq (lenL (cellsL (opd v T))) s && (allL oneB (cellsL (opd v T)) && Nat.ble (o + s) z) then put n (.cells z (putL (cellsL (opd v T)) o tr) ty) m fun m => k undef m else .no [12]
noncomputable def opNilc (x : Opd) : OpF := fun T m k => match opd x T with
 | .pointer none => .no [66]
 | .nilIface => .no [66]
 | .nilFunc => .no [66]
 | .func (.func f) a b => k (.func (.func f) a b) m
 | .func _ _ _ => .no [67]
 | v => k v m
noncomputable def sRun {β : Type} (P : Program) : Sem β -> Option β
 | .pure a => some a
 | .program k => sRun P (k P)
 | .mark _ k => sRun P k
 | _ => none
noncomputable def evT (T : TF) : Operand -> Value
 | .tmp t => getT (pl t) T
 | .const v => v
 | .global g => .pointer (some ⟨g, 0, none⟩)
 | .func f => .func (.func f) #[] #[]
noncomputable def opFlt (xs : List Opd) (o : Oper) : OpF := fun T m k => bif allL (fun x => flat (opd x T)) xs then match sRun Tryz.prog (execOp (evT T) o) with
  | some (.value v) => bif flat v then k v m else .no [29]
  | _ => .no [30]
 else .no [31]
noncomputable def halfK : IntKind -> Nat
 | .i8 => 128 | .i16 => 32768 | .i32 => 2147483648 | .i64 => 9223372036854775808
 | .u8 => 256 | .u16 => 65536 | .u32 => 4294967296 | .u64 => 18446744073709551616
noncomputable def sgnK : IntKind -> Bool
 | .i8 | .i16 | .i32 | .i64 => true
 | _ => false
noncomputable def wrapQ (k : IntKind) (n : Int) (f : Int -> R) : R := Int.rec (motive := fun _ => R) (fun m => bif Nat.blt m (halfK k) then f (.ofNat m) else f (k.wrap (.ofNat m))) (fun m => bif sgnK k && Nat.blt m (halfK k) then f (.negSucc m) else f (k.wrap (.negSucc m))) n
noncomputable def ltI (a b : Int) : Bool := Int.rec (motive := fun _ => Int -> Bool) (fun m b => Int.rec (motive := fun _ => Bool) (fun n => Nat.blt m n) (fun _ => false) b) (fun m b => Int.rec (motive := fun _ => Bool) (fun _ => true) (fun n => Nat.blt n m) b) a b
noncomputable def eqI (a b : Int) : Bool := Int.rec (motive := fun _ => Int -> Bool) (fun m b => Int.rec (motive := fun _ => Bool) (fun n => Nat.beq m n) (fun _ => false) b) (fun m b => Int.rec (motive := fun _ => Bool) (fun _ => false) (fun n => Nat.beq n m) b) a b
noncomputable def bytesEq (a b : List UInt8) : Bool := List.rec (motive := fun _ => List UInt8 -> Bool) (fun b => List.rec (motive := fun _ => Bool) true (fun _ _ _ => false) b) (fun x _ ih b => List.rec (motive := fun _ => Bool) false (fun y r _ => bif Nat.beq x.toNat y.toNat then ih r else false) b) a b
noncomputable def nilK : Value -> Nat
 | .pointer none => 1
 | .slice none _ _ => 2
 | .map none => 3
 | .nilFunc => 4
 | .nilIface => 5
 | _ => 0
noncomputable def ptrK : Value -> Nat
 | .pointer (some _) => 1
 | .slice (some _) _ _ => 2
 | .map (some _) => 3
 | .func .. => 4
 | .iface .. => 5
 | _ => 0
noncomputable def binInt (op : BinOp) (k : IntKind) (a b : Int) (f : Value -> R) (rest : R) : R :=
 match op with
 | .add => wrapQ k (Int.add a b) fun n => seqI n (f (.int k n))
 | .sub => wrapQ k (Int.sub a b) fun n => seqI n (f (.int k n))
 | .mul => wrapQ k (Int.mul a b) fun n => seqI n (f (.int k n))
 | .lss => f (.bool (ltI a b))
 | .leq => f (.bool (!ltI b a))
 | .gtr => f (.bool (ltI b a))
 | .geq => f (.bool (!ltI a b))
 | .eql => f (.bool (eqI a b))
 | .neq => f (.bool (!eqI a b))
 | _ => rest
noncomputable def binStr (op : BinOp) (a b : List UInt8) (f : Value -> R) (rest : R) : R :=
 match op with
 | .add => bif Nat.ble (lenL a + lenL b) LIM then f (.string ⟨⟨appL a b⟩⟩) else .no [28]
 | .eql => f (.bool (bytesEq a b))
 | .neq => f (.bool (!bytesEq a b))
 | _ => rest
noncomputable def binNil (op : BinOp) (kd : Nat) (a b : Value) (f : Value -> R) (rest : R) : R :=
 bif Nat.blt 0 kd && (Nat.beq (nilK b) kd && Nat.beq (ptrK a) kd) then (match op with
  | .eql => f (.bool false)
  | .neq => f (.bool true)
  | _ => rest) else rest
noncomputable def opBin (op : BinOp) (kd : Nat) (x y : Opd) (o : Oper) : OpF := fun T m k =>
 match opd x T, opd y T with
 | .int i a, .int j b => bif decide (i = j) then binInt op i a b (fun v => k v m) (opFlt [x, y] o T m k) else opFlt [x, y] o T m k
 | .string ⟨⟨a⟩⟩, .string ⟨⟨b⟩⟩ => binStr op a b (fun v => k v m) (opFlt [x, y] o T m k)
 | a, b => binNil op kd a b (fun v => k v m) (opFlt [x, y] o T m k)
noncomputable def opMki (t : TypeId) (x : Opd) : OpF := fun T m k => k (.iface t (opd x T)) m
noncomputable def opMkf (f : FuncId) (a b : List Opd) : OpF := fun T m k => k (.func (.func f) ⟨mapO T a⟩ ⟨mapO T b⟩) m
noncomputable def opMkm : OpF := fun _ m k => newO (.map []) m fun d m => k (.map (some d)) m
noncomputable def findE (key : List UInt8) (f : Option Value -> R) (es : List (Value × Value)) : R := List.rec (motive := fun _ => R) (f none) (fun e _ ih => match e.1 with
 | .string ⟨⟨a⟩⟩ => bif bytesEq key a then f (some e.2) else ih
 | _ => .no [21]) es
noncomputable def findI (key : Int) (f : Option Value -> R) (es : List (Value × Value)) : R := List.rec (motive := fun _ => R) (f none) (fun e _ ih => match e.1 with
 | .int .i64 a => bif eqI key a then f (some e.2) else ih
 | _ => .no [22]) es
noncomputable def vStr (v : Value) (k : List UInt8 -> R) : R :=
 match v with
 | .string ⟨⟨b⟩⟩ => k b
 | _ => .no [38]
noncomputable def vInt (v : Value) (k : Int -> R) : R :=
 match v with
 | .int .i64 n => k n
 | _ => .no [24]
noncomputable def findK (ks : Bool) (key : Value) (es : List (Value × Value)) (f : Option Value -> R) : R := Bool.rec (motive := fun _ => R) (vInt key fun n => findI n f es) (vStr key fun a => findE a f es) ks
noncomputable def vMap (v : Value) (k : Nat -> R) : R :=
 match v with
 | .map (some n) => k n
 | _ => .no [73]
noncomputable def oMap (o : AO) (k : List (Value × Value) -> R) : R := AO.rec (motive := fun _ => R) (fun _ _ _ => .no [74]) k (.no [74]) (fun _ _ => .no [74]) o
noncomputable def opIns (ks : Bool) (mp x v : Opd) : OpF := fun T m k => vMap (opd mp T) fun n => lookE n m fun ob m => oMap ob fun es => findK ks (opd x T) es fun r => Option.rec (motive := fun _ => R) (put n (.map (appL es [(opd x T, opd v T)])) m fun m => k undef m) (fun _ => .no [72]) r
noncomputable def okV (ok : Bool) (v : Value) (b : Bool) : Value := bif ok then .tuple ⟨[v, .bool b]⟩ else v
noncomputable def opLkp (ks : Bool) (z : Value) (ok : Bool) (mp x : Opd) : OpF := fun T m k => vMap (opd mp T) fun n => lookE n m fun ob m => oMap ob fun es => findK ks (opd x T) es fun r => Option.rec (motive := fun _ => R) (k (okV ok z false) m) (fun v => k (okV ok v true) m) r
noncomputable def repE (n : Nat) (l : List Value) : List Value := Nat.rec (motive := fun _ => List Value) [] (fun _ ih => appL l ih) n
noncomputable def opMks (_s : Nat) (z : List Value) (ty : TypeId) (l x : Opd) : OpF := fun T m k => vNat (opd l T) fun l => vNat (opd x T) fun x => bif Nat.ble l x && Nat.ble x 1000 then newL (repE x z) ty m fun d m => k (.slice (some ⟨d, 0, none⟩) l x) m else .no [77]
noncomputable def oNat (x : Option Opd) (T : TF) (n : Nat) (k : Nat -> R) : R := Option.rec (motive := fun _ => R) (k n) (fun x => vNat (opd x T) k) x
noncomputable def lowHigh (T : TF) (lo hi : Option Opd) (len : Nat) (k : Nat -> Nat -> R) : R := oNat hi T len fun h => oNat lo T 0 fun l => bif Nat.ble l h then k l h else .no [32]
noncomputable def sub (a b : Nat) : Nat := Nat.sub a b
noncomputable def vSl (v : Value) (k : Option Addr -> Nat -> Nat -> R) : R :=
 match v with
 | .slice a len cap => k a len cap
 | _ => .no [36]
noncomputable def aSome (a : Option Addr) (k : Nat -> Nat -> R) : R :=
 match a with
 | some ⟨n, o, none⟩ => k n o
 | _ => .no [33]
noncomputable def opSls (s : Nat) (x : Opd) (lo hi : Option Opd) : OpF := fun T m k => vSl (opd x T) fun a len cap => lowHigh T lo hi len fun l h => bif Nat.ble OPEN cap then
   (bif Nat.beq cap (OPEN + s) && (Nat.ble h len && (Nat.beq l 0 || Nat.blt l len)) then aSome a fun n o => seqN (o + l * s) (k (.slice (some ⟨n, o + l * s, none⟩) (sub h l) cap) m) else .no [34])
  else bif Nat.ble h cap then Option.rec (motive := fun _ => R) (k (.slice none (sub h l) (sub cap l)) m) (fun _ => aSome a fun n o => k (.slice (some ⟨n, bif Nat.beq cap l then o else o + l * s, none⟩) (sub h l) (sub cap l)) m) a else .no [35]
noncomputable def opSlt (x : Opd) (lo hi : Option Opd) : OpF := fun T m k => vStr (opd x T) fun b => lowHigh T lo hi (lenL b) fun l h => bif Nat.ble h (lenL b) then k (.string ⟨⟨takeL (sub h l) (dropL l b)⟩⟩) m else .no [37]
noncomputable def opSla (n s : Nat) (x : Opd) (lo hi : Option Opd) : OpF := fun T m k => vPtr (opd x T) fun b o => lowHigh T lo hi n fun l h => bif Nat.ble h n then k (.slice (some ⟨b, bif Nat.beq n l then o else o + l * s, none⟩) (sub h l) (sub n l)) m else .no [39]
noncomputable def opFad (off : Nat) (x : Opd) : OpF := fun T m k => vPtr (opd x T) fun n o => seqN (o + off) (k (.pointer (some ⟨n, o + off, none⟩)) m)
noncomputable def partL (ag : Bool) (s : Nat) (l : List Value) (o : Nat) (k : Value -> R) : R := Bool.rec (motive := fun _ => R) (oGet (getI o l) 14 k) (k (.agg ⟨takeL s (dropL o l)⟩)) ag
noncomputable def vAgg (v : Value) (k : List Value -> R) : R :=
 match v with
 | .agg ⟨l⟩ => k l
 | _ => .no [80]
noncomputable def opFld (ag : Bool) (s off : Nat) (x : Opd) : OpF := fun T m k => vAgg (opd x T) fun l => partL ag s l off fun v => k v m
noncomputable def opIas (s : Nat) (x i : Opd) : OpF := fun T m k => vNat (opd i T) fun i => vSl (opd x T) fun a len _ => bif Nat.blt i len then aSome a fun n o => seqN (o + i * s) (k (.pointer (some ⟨n, o + i * s, none⟩)) m) else .no [81]
noncomputable def opIaa (len s : Nat) (x i : Opd) : OpF := fun T m k => vNat (opd i T) fun i => vPtr (opd x T) fun n o => bif Nat.blt i len then seqN (o + i * s) (k (.pointer (some ⟨n, o + i * s, none⟩)) m) else .no [83]
noncomputable def trB (l : List UInt8) : Nat -> Tr UInt8 -> Tr UInt8 := List.rec (motive := fun _ => Nat -> Tr UInt8 -> Tr UInt8) (fun _ t => t) (fun v _ ih i t => ih (i + 1) (setP v (path i) t)) l
noncomputable def opIxs (x i : Opd) : OpF := fun T m k => vNat (opd i T) fun i => vStr (opd x T) fun b => bif Nat.ble i LIM && Nat.ble (lenL b) LIM then Option.rec (motive := fun _ => R) (.no [84]) (fun u => k (.int .u8 (.ofNat u.toNat)) m) (getP (trB b 0 .nil) (path i)) else .no [85]
noncomputable def opIxa (len : Nat) (ag : Bool) (s : Nat) (x i : Opd) : OpF := fun T m k => vNat (opd i T) fun i => vAgg (opd x T) fun l => bif Nat.blt i len then partL ag s l (i * s) fun v => k v m else .no [86]
noncomputable def opTas (t : TypeId) (z : Option Value) (x : Opd) : OpF := fun T m k => match opd x T with
 | .iface u v => bif Nat.beq u t then k (Option.rec (motive := fun _ => Value) v (fun _ => .tuple ⟨[v, .bool true]⟩) z) m else oGet z 49 fun z => k (.tuple ⟨[z, .bool false]⟩) m
 | .nilIface => oGet z 50 fun z => k (.tuple ⟨[z, .bool false]⟩) m
 | _ => .no [51]
noncomputable def opExt (i : Nat) (x : Opd) : OpF := fun T m k => match opd x T with
 | .tuple ⟨l⟩ => oGet (getI i l) 87 fun v => k v m
 | _ => .no [88]
noncomputable def goodF (g : FuncId) : Bool :=
 match Tryz.prog.funcs[g]? with
 | some fn => !(fn.name == "runtime.NumGoroutine") && fn.body.isSome
 | none => false
abbrev CallF := FuncId -> List Value -> Me -> KV -> R
noncomputable def opCal (call : CallF) (f : Opd) (xs : List Opd) : OpF := fun T m k => match opd f T with
 | .func (.func g) ⟨a⟩ ⟨b⟩ => bif goodF g then call g (appL a (appL (mapO T xs) b)) m k else .no [53]
 | _ => .no [52]
noncomputable def opLen (st : Bool) (x : Opd) : OpF := fun T m k => Bool.rec (motive := fun _ => R) (vSl (opd x T) fun _ n _ => k (.int .i64 (.ofNat n)) m) (vStr (opd x T) fun b => seqN (lenL b) (k (.int .i64 (.ofNat (lenL b))) m)) st
noncomputable def firstC (s : Nat) (x : Value) (n : Nat) (m : Me) (k : List Value -> Me -> R) : R :=
 match x with
 | .slice none _ _ => bif Nat.beq n 0 then k [] m else .no [38]
 | .slice (some ⟨b, o, none⟩) _ _ => lookE b m fun ob m => oRead ob fun z tr => bif Nat.ble (o + n * s) z then getL tr (n * s) o fun l => k l m else .no [39]
 | _ => .no [39]
noncomputable def appNew (s : Nat) (ty : TypeId) (old new : List Value) (len : Nat) (m : Me) (k : KV) : R := newL (appL old new) ty m fun d m => seqN len (k (.slice (some ⟨d, 0, none⟩) len (OPEN + s)) m)
noncomputable def appFin (s e b z len : Nat) (new : List Value) (tr : Tr Value) (m : Me) (k : KV) : R := put b .gone m fun m => newO (.cells (z + lenL new) (putL new z tr) e) m fun d m => seqN len (k (.slice (some ⟨d, 0, none⟩) len (OPEN + s)) m)
noncomputable def appOpen (s e b o len cap n : Nat) (new : List Value) (m : Me) (k : KV) : R := lookE b m fun ob m => oCells ob fun z tr ty => bif Nat.beq z (o + len * s) && (Nat.beq cap (OPEN + s) && (Nat.beq ty e && Nat.ble (len * s + lenL new) LIM)) then
  (bif Nat.beq o 0 then appFin s e b (len * s) (len + n) new tr m k else getL tr (len * s) o fun old => appFin s e b (len * s) (len + n) new (putL old 0 .nil) m k) else .no [42, z, o, len, s]
noncomputable def appIn (s b o len cap n : Nat) (new : List Value) (m : Me) (k : KV) : R := lookE b m fun ob m => oCells ob fun z tr ty => bif Nat.ble (o + (len + n) * s) z then put b (.cells z (putL new (o + len * s) tr) ty) m fun m => k (.slice (some ⟨b, o, none⟩) (len + n) cap) m else .no [45]
noncomputable def opApp (s : Nat) (e : TypeId) (y x : Opd) : OpF := fun T m k => vSl (opd y T) fun base len cap => vSl (opd x T) fun _ n _ => firstC s (opd x T) n m fun new m => bif allL oneB new then
  (bif Nat.ble OPEN cap then aSome base fun b o => appOpen s e b o len cap n new m k
  else bif Nat.ble (len + n) cap then Option.rec (motive := fun _ => R) (bif Nat.beq n 0 then k (.slice none len cap) m else .no [46]) (fun _ => aSome base fun b o => appIn s b o len cap n new m k) base
  else firstC s (opd y T) len m fun old m => appNew s e old new (len + n) m k) else .no [47]
noncomputable def opBad (n : List Nat) : OpF := fun _ _ _ => .no n
noncomputable def bytesV (l : List UInt8) : List Value := List.rec (motive := fun _ => List Value) [] (fun b _ ih => .int .u8 (.ofNat b.toNat) :: ih) l
noncomputable def opSb (x : Opd) : OpF := fun T m k => vStr (opd x T) fun l => bif Nat.ble (lenL l) LIM then newO (.tab (lenL l) (putL (bytesV l) 0 .nil)) m fun d m => k (.slice (some ⟨d, 0, none⟩) (lenL l) (OPEN + 1)) m else .no [80]
noncomputable def byteU (v : Value) (k : UInt8 -> R) : R := match v with
 | .int .u8 (.ofNat n) => bif Nat.blt n 256 then k (UInt8.ofNat n) else .no [81]
 | _ => .no [82]
noncomputable def bytesU (l : List Value) : (List UInt8 -> R) -> R := List.rec (motive := fun _ => (List UInt8 -> R) -> R) (fun k => k []) (fun v _ ih k => byteU v fun b => ih fun l => k (b :: l)) l
noncomputable def opBs (x : Opd) : OpF := fun T m k => vSl (opd x T) fun _ n _ => firstC 1 (opd x T) n m fun l m => bytesU l fun b => k (.string ⟨⟨b⟩⟩) m
noncomputable def evI (call : CallF) (i : I) : OpF := I.rec (motive := fun _ => OpF) opMov opPick opNew opBox opBld opBls opLd opSt opNilc opBin opFlt opMki opMkf opMkm opIns opLkp opMks opSls opSlt opSla opFad opFld opIas opIaa opIxs opIxa opTas opExt opLen opApp opBad (opCal call) opSb opBs i
abbrev KF := TF -> Me -> R
abbrev StF := TF -> Me -> KF -> R
noncomputable def isB (v : Value) (w : Bool) (a b : R) : R := match v with
 | .bool t => Bool.rec (motive := fun _ => R) (bif t then b else a) (bif t then a else b) w
 | _ => b
noncomputable def dfrOk (idle : FuncId -> Bool) (v : Value) (k : R) : R := match v with
 | .func (.func g) ⟨[]⟩ ⟨[_]⟩ => bif idle g && goodF g then k else .no [92]
 | _ => .no [93]
noncomputable def sqMv (d : Pl) (x : Opd) (_ : IL) (ih : StF) : StF := fun T m k => ih (setT d (opd x T) T) m k
noncomputable def sqN (call : CallF) (i : I) (_ : IL) (ih : StF) : StF := fun T m k => evI call i T m fun _ m => ih T m k
noncomputable def sqBad (n : List Nat) : StF := fun _ _ _ => .no n
noncomputable def sqDfr (idle : FuncId -> Bool) (f : Opd) (_ : IL) (ih : StF) : StF := fun T m k => dfrOk idle (opd f T) (ih T m k)
noncomputable def sqP (call : CallF) (d : Pl) (i : I) (_ : IL) (ih : StF) : StF := fun T m k => evI call i T m fun v m => ih (setT d v T) m k
noncomputable def sqG (call : CallF) (q : Pl) (w : Bool) (d : Pl) (i : I) (_ : IL) (ih : StF) : StF := fun T m k => isB (getT q T) w (evI call i T m fun v m => ih (setT d v T) m k) (ih (setT d undef T) m k)
noncomputable def evSeq (idle : FuncId -> Bool) (call : CallF) (l : IL) : StF := IL.rec (motive := fun _ => StF) (fun T m k => k T m) sqMv (sqN call) sqBad (sqDfr idle) (sqP call) (sqG call) l
noncomputable def apartB (ms : List (Nat × Nat)) (p : Nat × Nat) : Bool := Option.rec (motive := fun _ => Bool) false (fun x => Option.rec (motive := fun _ => Bool) false (fun y => Nat.beq (Nat.land x.2 y.1) 0 && Nat.beq (Nat.land y.2 x.1) 0) (getI p.2 ms)) (getI p.1 ms)
noncomputable def evDrw (idle : FuncId -> Bool) (call : CallF) (ps : List (Nat × Nat)) (l : List (IL × Bool)) : List (Nat × Nat) -> StF := List.rec (motive := fun _ => List (Nat × Nat) -> StF)
 (fun ms T m k => bif allL (apartB ms) ps then k T m else .no [110])
 (fun x _ ih ms T m k => Bool.rec (motive := fun _ => R) (evSeq idle call x.1 T m fun T m => ih ((0, 0) :: ms) T m k) (Me.rec (motive := fun _ => R) (fun H c A W => evSeq idle call x.1 T ⟨H, c, 0, 0⟩ fun T m => Me.rec (motive := fun _ => R) (fun H c' A' W' => seqN (Nat.lor A A') (seqN (Nat.lor W W') (ih ((A', Nat.lor W' (sub (bit c') (bit c))) :: ms) T ⟨H, c', Nat.lor A A', Nat.lor W W'⟩ k))) m) m) x.2) l
abbrev KE := EvEx -> TF -> Me -> R
abbrev CoF := TF -> Me -> KE -> R
noncomputable def exF (e : EvEx) (n : R) (ke : R) : R := EvEx.rec (motive := fun _ => R) n (fun _ => ke) ke e
noncomputable def loopN (b : CoF) (n : Nat) : CoF := Nat.rec (motive := fun _ => CoF) (fun _ _ _ => .no [94]) (fun _ ih T m k => b T m fun e T m => exF e (ih T m k) (k e T m)) n
noncomputable def condF (v : Value) (a b : R) : R := match v with
 | .bool t => bif t then a else b
 | _ => .no [95]
noncomputable def evC (idle : FuncId -> Bool) (call : CallF) (c : IC) : CoF := IC.rec (motive := fun _ => CoF)
 (fun T m k => k .normal T m)
 (fun l T m k => evSeq idle call l T m (k .normal))
 (fun l ps T m k => evDrw idle call ps l [] T m (k .normal))
 (fun _ _ iha ihb T m k => iha T m fun e T m => exF e (ihb T m k) (k e T m))
 (fun x _ _ iha ihb T m k => condF (opd x T) (iha T m k) (ihb T m k))
 (fun id _ ih T m k => ih T m fun e T m => EvEx.rec (motive := fun _ => R) (k .normal T m) (fun j => bif Nat.beq j id then k .normal T m else k (.exit j) T m) (k .ret T m) e)
 (fun _ ih => loopN ih 100000)
 (fun id T m k => k (.exit id) T m)
 (fun T m k => k .ret T m)
 (fun n _ _ _ => .no n) c
noncomputable def resL (rs : List RV) (T : TF) : Me -> (List Value -> Me -> R) -> R := List.rec (motive := fun _ => Me -> (List Value -> Me -> R) -> R) (fun m k => k [] m)
 (fun r _ ih m k => RV.rec (motive := fun _ => R) (fun p => ih m fun l m => k (getT p T :: l) m) (fun p ag s => opLd ag s (.t p) T m fun v m => ih m fun l m => k (v :: l) m) r) rs
noncomputable def oneR (l : List Value) : Value := match l with
 | [v] => v
 | l => .tuple ⟨l⟩
noncomputable def argsT (l : List Value) : Nat -> TF -> TF := List.rec (motive := fun _ => Nat -> TF -> TF) (fun _ T => T) (fun v _ ih i T => ih (i + 1) (setT (pl i) v T)) l
noncomputable def tyI (P : Program) (t : TypeId) : Option (Bool × Nat) :=
 match P.info? t with
 | none => none
 | some i => match P.underlying t with
  | some (.struct _) => some (true, i.size)
  | some (.array _ _) => some (true, i.size)
  | some _ => some (false, i.size)
  | none => none
noncomputable def zeroE (P : Program) (t : TypeId) : Option Value :=
 match (P.info? t).bind (·.zero) with
 | some z => bif flat z then some z else none
 | none => none
noncomputable def fieldI (P : Program) (t : TypeId) (f : Nat) : Option Field :=
 match P.underlying t with
 | some (.struct fs) => fs[f]?
 | _ => none
noncomputable def elemI (P : Program) (t : TypeId) : Option TypeId :=
 match P.underlying t with
 | some (.slice e) => some e
 | _ => none
noncomputable def nilT (P : Program) (t : TypeId) : Nat :=
 match P.underlying t with
 | some (.pointer _) => 1
 | some (.slice _) => 2
 | some (.map _ _) => 3
 | some (.func _ _ _) => 4
 | some (.interface _) => 5
 | _ => 0
noncomputable def keyI (P : Program) (t : TypeId) : Option Bool :=
 match P.underlying t with
 | some .string => some true
 | some (.int .i64) => some false
 | _ => none
noncomputable def smallB (P : Program) (t : TypeId) : Bool :=
 match P.info? t with
 | some i => Nat.ble i.bytes 1000000
 | none => false
noncomputable def okO : Operand -> Bool
 | .tmp t => Nat.blt t 256
 | .const v => flat v
 | .global g => Nat.blt g 400
 | _ => true
noncomputable def dO : Operand -> Opd
 | .tmp t => .t (pl t)
 | .const v => .v v
 | .global g => .v (.pointer (some ⟨g, 0, none⟩))
 | .func f => .v (.func (.func f) #[] #[])
noncomputable def orBad (n : Nat) (o : Option I) : I := o.getD (.bad [n])
noncomputable def placesI (P : Program) (fs : Array Field) (ps : List (Nat × Operand)) : Option (List (Nat × Nat × Opd)) := ps.mapM fun p => (fs[p.1]?).bind fun f => (P.info? f.type).map fun k => (f.offset, k.size, dO p.2)
noncomputable def decOp (P : Program) (o : Oper) : I :=
 bif !o.op.operands.toList.all okO then .bad [120] else
 match o.op with
 | .move x => .mov (dO x)
 | .assign x => .mov (dO x)
 | .pick c a b => .pick (dO c) (dO a) (dO b)
 | .alloc t => orBad 121 <| (zeroE P t).bind fun z => bif Nat.ble (lenL (cellsL z)) LIM then some (.new (lenL (cellsL z)) (putL (cellsL z) 0 .nil) t) else none
 | .box t x => .box (dO x) t
 | .build t ps => orBad 122 <| (zeroE P t).bind fun z => match P.underlying t with
  | some (.struct fs) => (placesI P fs ps.toList).bind fun l => bif fs.toList.all (fun f => (P.info? f.type).isSome) then some (.bld (cellsL z) l) else none
  | some (.array _ e) => (tyI P e).map fun k => .bld (cellsL z) (ps.toList.map fun p => (p.1 * k.2, k.2, dO p.2))
  | _ => none
 | .buildSlice t len ps => orBad 123 <| (elemI P t).bind fun e => (tyI P e).bind fun k => (zeroE P e).bind fun z => bif Nat.ble len 10000 && Nat.ble (len * k.2) 10000 && Nat.beq (lenL (cellsL z)) k.2 then some (.bls len (len * k.2) (putL (repE len (cellsL z)) 0 .nil) (ps.toList.map fun p => (p.1 * k.2, k.2, dO p.2)) e) else none
 | .load t a => orBad 124 <| (tyI P t).map fun k => .ld k.1 k.2 (dO a)
 | .store t a v => orBad 125 <| (tyI P t).map fun k => .st k.2 (dO a) (dO v)
 | .nilCheck x => .nilc (dO x)
 | .binOp op t x y _ => .bin op (nilT P t) (dO x) (dO y) o
 | .unOp _ _ x => .flt [dO x] o
 | .convert src dst x => match P.underlying src, P.underlying dst with
  | some .string, some .string => .flt [dO x] o
  | some (.int _), some (.int _) => .flt [dO x] o
  | some .string, some (.slice e) => (match P.underlying e with
   | some (.int .u8) => .sb (dO x)
   | _ => .bad [126])
  | some (.slice e), some .string => (match P.underlying e with
   | some (.int .u8) => .bs (dO x)
   | _ => .bad [126])
  | _, _ => .bad [126]
 | .makeInterface t x => match P.underlying t with
  | some (.interface _) => .bad [127]
  | some _ => .mki t (dO x)
  | none => .bad [127]
 | .makeFunc (.func f) a b => .mkf f (a.toList.map dO) (b.toList.map dO)
 | .makeMap _ none => .mkm
 | .insert t m k v => match P.underlying t with
  | some (.map kt _) => orBad 127 <| (keyI P kt).map fun ks => .ins ks (dO m) (dO k) (dO v)
  | _ => .bad [127]
 | .lookup t m k ok => match P.underlying t with
  | some (.map kt e) => orBad 128 <| (zeroE P e).bind fun z => (keyI P kt).map fun ks => .lkp ks z ok (dO m) (dO k)
  | _ => .bad [128]
 | .makeSlice t l c => orBad 129 <| (elemI P t).bind fun e => (tyI P e).bind fun k => (zeroE P e).bind fun z => bif Nat.beq (lenL (cellsL z)) k.2 && smallB P e then some (.mks k.2 (cellsL z) e (dO l) (dO c)) else none
 | .slice t x lo hi none => match P.underlying t with
  | some .string => .slt (dO x) (lo.map dO) (hi.map dO)
  | some (.slice e) => orBad 130 <| (tyI P e).map fun k => .sls k.2 (dO x) (lo.map dO) (hi.map dO)
  | some (.array n e) => orBad 131 <| (tyI P e).bind fun k => bif Nat.ble n 1000000 then some (.sla n k.2 (dO x) (lo.map dO) (hi.map dO)) else none
  | _ => .bad [131]
 | .fieldAddr t x f => orBad 132 <| (fieldI P t f).bind fun fd => (tyI P fd.type).bind fun k => bif Nat.beq k.2 0 then none else some (.fad fd.offset (dO x))
 | .field t x f => orBad 133 <| (fieldI P t f).bind fun fd => (tyI P fd.type).map fun k => .fld k.1 k.2 fd.offset (dO x)
 | .indexAddr t x ix => match P.underlying t with
  | some (.slice e) => orBad 134 <| (tyI P e).map fun k => .ias k.2 (dO x) (dO ix)
  | some (.array n e) => orBad 134 <| (tyI P e).map fun k => .iaa n k.2 (dO x) (dO ix)
  | _ => .bad [134]
 | .index t x ix => match P.underlying t with
  | some .string => .ixs (dO x) (dO ix)
  | some (.array n e) => orBad 135 <| (tyI P e).map fun k => .ixa n k.1 k.2 (dO x) (dO ix)
  | _ => .bad [135]
 | .typeAssert x _ t ok => match P.underlying t with
  | some (.interface _) => .bad [136]
  | none => .bad [136]
  | _ => bif ok then orBad 137 ((zeroE P t).map fun z => .tas t (some z) (dO x)) else .tas t none (dO x)
 | .extract x i => .ext i (dO x)
 | .call c => match c.callee with
  | .value f => .cal (dO f) (c.args.toList.map dO)
  | .builtin .len => match c.args.toList, c.argTypes.toList with
   | [x], t :: _ => (match P.underlying t with
    | some (.slice _) => .len false (dO x)
    | some .string => .len true (dO x)
    | _ => .bad [138])
   | _, _ => .bad [138]
  | .builtin .append => match c.args.toList, c.argTypes.toList with
   | [s, x], [t, u] => match P.underlying u with
    | some (.slice _) => orBad 140 <| (elemI P t).bind fun e => (tyI P e).bind fun k => (zeroE P e).bind fun z => bif Nat.beq (lenL (cellsL z)) k.2 && (Nat.blt 0 k.2 && smallB P e) then some (.app k.2 e (dO s) (dO x)) else none
    | _ => .bad [139]
   | _, _ => .bad [141]
  | .builtin .max => .flt (c.args.toList.map dO) o
  | .builtin .min => .flt (c.args.toList.map dO) o
  | _ => .bad [142]
 | _ => .bad [143]
noncomputable def okD (n : Nat) : Option Nat -> Bool
 | some d => Nat.blt d n
 | none => true
noncomputable def decIns (P : Program) (n : Nat) (ops : Array Oper) (o : Oper) (r : IL) : IL :=
 bif !okD n o.dst then .bad [150] else
 match o.op with
 | .defer c => match c.callee, c.args.toList, o.dst, o.guard with
  | .value x, [], none, none => bif okO x then .dfr (dO x) r else .bad [151]
  | _, _, _, _ => .bad [151]
 | _ => match o.guard, o.dst with
  | none, some d => (match decOp P o with
   | .mov x => .mv (pl d) x r
   | i => .p (pl d) i r)
  | none, none => .n (decOp P o) r
  | some (j, w), some d => match (ops[j]?).bind (·.dst) with
   | some q => bif Nat.blt q 256 then .g (pl q) w (pl d) (decOp P o) r else .bad [152]
   | none => .bad [152]
  | some _, none => .bad [153]
noncomputable def kindO (o : Oper) : Nat :=
 match o.op with
 | .alloc .. | .box .. | .buildSlice .. | .store .. | .makeMap .. | .insert .. | .makeSlice .. | .convert .. => 2
 | .load .. | .lookup .. => 1
 | .call c => match c.callee with
  | .value _ => 2
  | .builtin .append => 2
  | _ => 0
 | _ => 0
noncomputable def maskB (acc : List Nat) (es : List Edge) : Nat := List.rec (motive := fun _ => Nat) 0 (fun e _ ih => bif Region.binds .any e then Nat.lor (Nat.lor (bit e.on) (acc.getD e.on 0)) ih else ih) es
noncomputable def befL (l : List Oper) : List Nat -> List Nat := List.rec (motive := fun _ => List Nat -> List Nat) (fun acc => acc) (fun o _ ih acc => ih (acc ++ [maskB acc o.after.toList])) l
noncomputable def orBits (l : List Nat) : Nat := List.rec (motive := fun _ => Nat) 0 (fun n _ ih => Nat.lor (bit n) ih) l
noncomputable def dstM (o : Oper) : Nat := match o.dst with
 | some d => bit d
 | none => 0
noncomputable def lookM (ops : Array Oper) (o : Oper) : Nat := orBits (o.looksAt ops)
noncomputable def edgesB (i : Nat) (es : List Edge) : Bool := allL (fun e => !Region.binds .any e || Nat.blt e.on i) es
noncomputable def apartO (ops : Array Oper) (x y : Oper) : Bool := Nat.beq (Nat.land (dstM x) (Nat.lor (lookM ops y) (dstM y))) 0 && Nat.beq (Nat.land (dstM y) (lookM ops x)) 0
noncomputable def drawB (ops : Array Oper) (b : List Nat) : Bool := (List.range ops.size).all fun j => match ops[j]? with
 | some y => edgesB j y.after.toList && (List.range j).all fun i => (b.getD j 0).testBit i || (match ops[i]? with
  | some x => apartO ops x y
  | none => false)
 | none => false
noncomputable def pairsOf (b : List Nat) (ks : List Nat) (n : Nat) : List (Nat × Nat) := (List.range n).flatMap fun j => ((List.range j).filter fun i => !(b.getD j 0).testBit i && (Nat.ble 3 (ks.getD i 2 + ks.getD j 2) && (Nat.ble 1 (ks.getD i 2) && Nat.ble 1 (ks.getD j 2)))).map fun i => (i, j)
noncomputable def decL (P : Program) (n : Nat) (ops : Array Oper) (l : List Oper) : IL := List.rec (motive := fun _ => IL) .nil (fun o _ ih => decIns P n ops o ih) l
noncomputable def involved (ps : List (Nat × Nat)) (i : Nat) : Bool := ps.any fun p => Nat.beq p.1 i || Nat.beq p.2 i
noncomputable def decD (P : Program) (n : Nat) (ops : Array Oper) (ps : List (Nat × Nat)) : List (IL × Bool) := ops.toList.zipIdx.map fun x => (decIns P n ops x.1 .nil, involved ps x.2)
noncomputable def decR (P : Program) (n : Nat) (ops : Array Oper) (draw : Bool) : IC :=
 bif draw then
  (bif drawB ops (befL ops.toList []) then
   (match pairsOf (befL ops.toList []) (ops.toList.map kindO) ops.size with
   | [] => .reg (decL P n ops ops.toList)
   | p :: ps => .drw (decD P n ops (p :: ps)) ((p :: ps).map fun p => (ops.size - 1 - p.1, ops.size - 1 - p.2)))
  else .bad [160])
 else .reg (decL P n ops ops.toList)
noncomputable def decC (P : Program) (n : Nat) : Code -> IC
 | .skip => .skip
 | .region _ ops draw => decR P n ops draw
 | .seq a b => .seq (decC P n a) (decC P n b)
 | .cond c a b => bif okO c then .cond (dO c) (decC P n a) (decC P n b) else .bad [97]
 | .block id b => .block id (decC P n b)
 | .loop b => .loop (decC P n b)
 | .exit id => .exit id
 | .ret => .ret
 | .label _ => .skip
 | _ => .bad [96]
noncomputable def decRes (P : Program) : ResultVar -> RV
 | .tmp t => .t (pl t)
 | .cell a t => match tyI P t with
  | some k => .c (pl a) k.1 k.2
  | none => .c (pl a) true 0
noncomputable def resOk (P : Program) : ResultVar -> Bool
 | .tmp t => Nat.blt t 256
 | .cell a t => Nat.blt a 256 && (tyI P t).isSome
noncomputable def decF (P : Program) (f : FuncId) : FI :=
 match P.funcs[f]? with
 | none => .bad [100, f]
 | some fn => match fn.body with
  | none => .bad [101, f]
  | some c => bif Nat.ble fn.ntmps 256 && fn.results.toList.all (resOk P) then .f fn.ntmps (decC P fn.ntmps c) (fn.results.toList.map (decRes P)) else .bad [104, f, fn.ntmps]
abbrev ExtF := List Value -> Me -> KV -> R
noncomputable def evF (ext : FuncId -> Option ExtF) (idle : FuncId -> Bool) (call : CallF) : CallF := fun f args m k =>
 Option.rec (motive := fun _ => R) (FI.rec (motive := fun _ => R) (fun n b rs => bif Nat.ble (lenL args) n then evC idle call b (argsT args 0 undT) m fun e T m => EvEx.rec (motive := fun _ => R) (resL rs T m fun l m => k (oneR l) m) (fun _ => .no [103, f]) (resL rs T m fun l m => k (oneR l) m) e else .no [105, f]) (fun n => .no n) (decF Tryz.prog f))
  (fun g => g args m k) (ext f)
noncomputable def callN (ext : FuncId -> Option ExtF) (idle : FuncId -> Bool) (n : Nat) : CallF := Nat.rec (motive := fun _ => CallF) (fun f _ _ _ => .no [102, f]) (fun _ ih => evF ext idle ih) n
end
end Go.Proofs.YthejfklieedjmaaGreatDoor
