/-
  THE PLAIN SIDE: what the program's functions compute, as functions on integers and lists. No program in sight.
-/
namespace Venn

/-! ### sets -/
def things (u : Int) : Bool := decide (0 ≤ u) && decide (u ≤ 6)
def allS (u : Int) : Int := ((2 ^ u.toNat : Nat) : Int) - 1
def rightS (u s : Int) : Bool := decide (0 ≤ s) && decide (s ≤ allS u)
def setChk (u s : Int) : Int := if (things u && rightS u s) = true then 0 else 1
def andNot (a b : Nat) : Nat := a ^^^ (a &&& b)
def setOf (what u a b : Int) : Int :=
  if what = 5 then ((a.toNat ||| b.toNat : Nat) : Int)
  else if what = 6 then ((a.toNat &&& b.toNat : Nat) : Int)
  else if what = 7 then (andNot a.toNat b.toNat : Int)
  else (andNot (allS u).toNat a.toNat : Int)
def bit (s : Int) (i : Nat) : Bool := s.toNat.testBit i
def many (s : Int) : Int := ((List.range 6).filter fun i => bit s i).length
def sizeV (u s : Int) : Int := if setChk u s = 0 then many s else 0
def setDoChk (what u a b : Int) : Int :=
  if setChk u a = 0 then (if setChk u b = 0 then (if what < 5 ∨ 8 < what then 1 else 0) else 1) else 1

def setDoV (what u a b : Int) : Int := if setDoChk what u a b = 0 then setOf what u a b else 0
def hasChk (u s i : Int) : Int := if setChk u s = 0 then (if i < 0 ∨ u ≤ i then 1 else 0) else 1
def hasV (u s i : Int) : Bool := if hasChk u s i = 0 then bit s i.toNat else false

/-! ### worlds and terms -/
structure World where
  things : Int
  a : Int
  b : Int
  c : Int
def World.has (w : World) (k : Int) : Int := if k = 0 then w.a else if k = 1 then w.b else w.c
def worldChk (w : World) : Int :=
  if things w.things = true then (if setChk w.things w.a = 0 then (if setChk w.things w.b = 0 then setChk w.things w.c else 1) else 1) else 1

def takes (s : Int) : Int := if s = 8 then 1 else if 5 ≤ s then 2 else 0
def shapeGo : Int → List Int → Int
  | m, [] => if m = 1 then 0 else 3
  | m, s :: r => if m < takes s then 3 else shapeGo (m + (1 - takes s)) r
def badSign (s : Int) : Bool := decide (s < 0) || decide (8 < s)
def termChk (t : List Int) : Int :=
  if t.length = 0 then 5 else if 12 < t.length then 4 else if t.any badSign = true then 1 else shapeGo 0 t

/-- One sign, on the stack of sets (the top first). -/
def setStep (w : World) (st : List Int) (s : Int) : List Int :=
  if s < 3 then w.has s :: st
  else if s = 3 then 0 :: st
  else if s = 4 then allS w.things :: st
  else if s = 8 then (match st with | x :: r => setOf 8 w.things x 0 :: r | [] => [])
  else (match st with | y :: x :: r => setOf s w.things x y :: r | _ => st)
def termSet (t : List Int) (w : World) : Int := (t.foldl (setStep w) []).headD 0


/-! ### fields -/
/-- Thing t joins name nm, if the field k says so. -/
def orBit (s : Int) (k nm : Nat) (t : Int) : Int := ((s.toNat ||| (k / 2 ^ nm % 2) * 2 ^ t.toNat : Nat) : Int)
def addThing (k : Nat) (w : World) : World := ⟨w.things + 1, orBit w.a k 0 w.things, orBit w.b k 1 w.things, orBit w.c k 2 w.things⟩
def addMany (k : Nat) : Nat → World → World
  | 0, w => w
  | n + 1, w => addMany k n (addThing k w)
def madeGo : Nat → List Int → World → World
  | _, [], w => w
  | k, n :: r, w => madeGo (k + 1) r (addMany k n.toNat w)
/-- The world of so many in each field. -/
def made (l : List Int) : World := madeGo 0 l ⟨0, 0, 0, 0⟩
/-- Does a term lie in a field: 1 or 0. -/
def lies (t : List Int) (f : Nat) : Int := termSet t ⟨1, (f % 2 : Nat), (f / 2 % 2 : Nat), (f / 4 % 2 : Nat)⟩
def maskTo (t : List Int) : Nat → Int
  | 0 => 0
  | f + 1 => maskTo t f + lies t f * 2 ^ f
/-- In which fields a term lies. -/
def mask (t : List Int) : Int := maskTo t 8
end Venn
