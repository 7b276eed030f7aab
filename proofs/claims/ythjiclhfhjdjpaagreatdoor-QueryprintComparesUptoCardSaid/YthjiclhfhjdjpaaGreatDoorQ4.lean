/- Parts of a proof, merged by a program (shake.py). -/
import Derived.Test.YthjiclhfhjdjpaaGreatDoorQ3
set_option linter.unusedVariables false
set_option linter.unusedSimpArgs false
namespace Go.Proofs.YthjiclhfhjdjpaaGreatDoor
/-- what a reader holds: the tokens that are left; whether values may be variables; how many nodes the value has -/
structure PS where
  ts : List Tok
  vr : Bool
  nd : Nat
/-- what a reader yields: a thing and what is left, or the index of a token and an error -/
abbrev PR (α : Type) := Except (Nat × Int) (α × PS)
def hdT (x : PS) : Tok := x.ts.headD ⟨5, [], 0⟩
def isS (x : PS) (s : List UInt8) : Bool := (hdT x).k == 1 && (hdT x).s == s
def nxT (x : PS) : PS := if (hdT x).k = 5 then x else { x with ts := x.ts.drop 1 }
def takeQ (s : List UInt8) (x : PS) : PR Unit := if isS x s = true then .ok ((), nxT x) else .error ((hdT x).i, 3)
def nameQ (x : PS) : PR (List UInt8) := if (hdT x).k = 2 then .ok ((hdT x).s, nxT x) else .error ((hdT x).i, 3)
/-- one thing behind the other -/
def thenQ {α β : Type} (r : PR α) (f : α → PS → PR β) : PR β :=
  match r with
  | .error e => .error e
  | .ok (a, x) => f a x
def strD (s : List UInt8) : D := .str ⟨s.toArray⟩
def valD (k n : Int) (s : List UInt8) (items : List D) (keys : List (List UInt8)) : D := .obj [.int k, .int n, strD s, .list items, .list (keys.map strD)]
def refD (n : List UInt8) (w : List Int) : D := .obj [strD n, .list (w.map .int)]
def argD (n : List UInt8) (v : D) : D := .obj [strD n, v]
def dirD (n : List UInt8) (aa : List D) : D := .obj [strD n, .list aa]
def selD (k : Int) (al n on : List UInt8) (aa ds ss : List D) : D := .obj [.int k, strD al, strD n, strD on, .list aa, .list ds, .list ss]
def varD (n : List UInt8) (t : D) (h : Bool) (v : D) : D := .obj [strD n, t, .bool h, v]
def opD (k : Int) (n : List UInt8) (vs ss : List D) : D := .obj [.int k, strD n, .list vs, .list ss]
def fragD (n on : List UInt8) (ss : List D) : D := .obj [strD n, strD on, .list ss]
def queD (ops frags : List D) : D := .obj [.list ops, .list frags]
def nullD : D := valD 0 0 [] [] []
/-- how many brackets open -/
def openQ : Nat → PS → Nat × PS
  | 0, x => (0, x)
  | f + 1, x => if isS x [91] = true then ((openQ f (nxT x)).1 + 1, (openQ f (nxT x)).2) else (0, x)
/-- the wrappers, the outermost first, behind the name -/
def closeQ : Nat → List Int → PS → PR (List Int)
  | 0, w, x => .ok (if isS x [33] = true then (1 :: w, nxT x) else (w, x))
  | n + 1, w, x => thenQ (takeQ [93] (if isS x [33] = true then nxT x else x)) fun _ y => closeQ n (2 :: (if isS x [33] = true then 1 :: w else w)) y
def innerQ (x : PS) : PR (List UInt8 × List Int) :=
  thenQ (nameQ (openQ x.ts.length x).2) fun n y => thenQ (closeQ (openQ x.ts.length x).1 [] y) fun w z => .ok ((n, w), z)
def typQ (x : PS) : PR D := thenQ (innerQ x) fun t y => if t.2.length > 24 then .error ((hdT x).i, 5) else .ok (refD t.1 t.2, y)
def numQ (l : List UInt8) : Int := match numU l with | .ok n => n | _ => 0
def wordV (s : List UInt8) : D :=
  if s = [116, 114, 117, 101] then valD 1 1 [] [] [] else if s = [102, 97, 108, 115, 101] then valD 1 0 [] [] [] else if s = [110, 117, 108, 108] then nullD else valD 4 0 s [] []
/-- no value begins here -/
def noVal (x : PS) : Bool := (hdT x).k == 5 || ((hdT x).k == 1 && !isS x [91] && !isS x [123] && !(x.vr && isS x [36]))
def itemsQ (val : PS → PR D) : Nat → List D → PS → PR (List D)
  | 0, _, x => .error ((hdT x).i, 0)
  | f + 1, acc, x => if isS x [93] = true then .ok (acc, nxT x) else thenQ (val x) fun v y => itemsQ val f (acc ++ [v]) y
def fieldsQ (val : PS → PR D) : Nat → List (List UInt8) → List D → PS → PR (List (List UInt8) × List D)
  | 0, _, _, x => .error ((hdT x).i, 0)
  | f + 1, ks, acc, x =>
    if isS x [125] = true then .ok ((ks, acc), nxT x)
    else thenQ (nameQ x) fun k y => if ks.contains k = true then .error ((hdT x).i, 7) else
      thenQ (takeQ [58] y) fun _ z => thenQ (val z) fun v u => fieldsQ val f (ks ++ [k]) (acc ++ [v]) u
def valueQ : Nat → Nat → PS → PR D
  | 0, _, x => .error ((hdT x).i, 0)
  | f + 1, lv, x =>
    if noVal x = true then .error ((hdT x).i, 3)
    else if 24 < lv then .error ((hdT x).i, 5)
    else if 4096 ≤ x.nd then .error ((hdT x).i, 4)
    else
      let y : PS := { nxT x with nd := x.nd + 1 }
      if (hdT x).k = 3 then .ok (valD 2 (numQ (hdT x).s) [] [] [], y)
      else if (hdT x).k = 4 then .ok (valD 3 0 (hdT x).s [] [], y)
      else if (hdT x).k = 2 then .ok (wordV (hdT x).s, y)
      else if (hdT x).s = [36] then thenQ (nameQ y) fun n z => .ok (valD 7 0 n [] [], z)
      else if (hdT x).s = [91] then thenQ (itemsQ (valueQ f (lv + 1)) (y.ts.length + 1) [] y) fun l z => .ok (valD 5 0 [] l [], z)
      else thenQ (fieldsQ (valueQ f (lv + 1)) (y.ts.length + 1) [] [] y) fun l z => .ok (valD 6 0 [] l.2 l.1, z)
/-- the fuel is more than the levels that are left -/
def wholeQ (x : PS) : PR D := valueQ 25 1 { x with nd := 0 }
def argsF : Nat → List D → PS → PR (List D)
  | 0, _, x => .error ((hdT x).i, 0)
  | f + 1, acc, x =>
    if acc.length ≠ 0 ∧ isS x [41] = true then .ok (acc, nxT x)
    else if (hdT x).k = 2 ∧ 16 ≤ acc.length then .error ((hdT x).i, 4)
    else thenQ (nameQ x) fun n y => thenQ (takeQ [58] y) fun _ z => thenQ (wholeQ z) fun v u => argsF f (acc ++ [argD n v]) u
def argsQ (x : PS) : PR (List D) := if isS x [40] = true then argsF x.ts.length [] (nxT x) else .ok ([], x)
def dirsF : Nat → List D → PS → PR (List D)
  | 0, _, x => .error ((hdT x).i, 0)
  | f + 1, acc, x =>
    if isS x [64] = true then
      (if 16 ≤ acc.length then .error ((hdT x).i, 4) else thenQ (nameQ (nxT x)) fun n y => thenQ (argsQ y) fun aa z => dirsF f (acc ++ [dirD n aa]) z)
    else .ok (acc, x)
def dirsQ (x : PS) : PR (List D) := dirsF (x.ts.length + 1) [] x
def onT : List UInt8 := [111, 110]
def selQ (sels : PS → PR (List D)) (x : PS) : PR D :=
  if isS x [46, 46, 46] = true then
    let y := nxT x
    if (hdT y).k = 2 ∧ (hdT y).s ≠ onT then thenQ (dirsQ (nxT y)) fun ds z => .ok (selD 2 [] (hdT y).s [] [] ds [], z)
    else
      thenQ (if (hdT y).k = 2 then nameQ (nxT y) else .ok ([], y)) fun on z =>
        thenQ (dirsQ z) fun ds u => thenQ (sels u) fun ss v => .ok (selD 3 [] [] on [] ds ss, v)
  else
    thenQ (nameQ x) fun n y =>
      thenQ (if isS y [58] = true then thenQ (nameQ (nxT y)) fun m z => .ok ((n, m), z) else .ok (([], n), y)) fun an z =>
        thenQ (argsQ z) fun aa u => thenQ (dirsQ u) fun ds v =>
          thenQ (if isS v [123] = true then sels v else .ok ([], v)) fun ss o => .ok (selD 1 an.1 an.2 [] aa ds ss, o)
def setF (sel : PS → PR D) : Nat → List D → PS → PR (List D)
  | 0, _, x => .error ((hdT x).i, 0)
  | f + 1, acc, x =>
    if acc.length ≠ 0 ∧ isS x [125] = true then .ok (acc, nxT x)
    else if ((hdT x).k = 2 ∨ isS x [46, 46, 46] = true) ∧ 64 ≤ acc.length then .error ((hdT x).i, 4)
    else thenQ (sel x) fun s y => setF sel f (acc ++ [s]) y
/-- a set of a level; the fuel is more than the levels that are left -/
def selsQ : Nat → Nat → PS → PR (List D)
  | 0, _, x => .error ((hdT x).i, 0)
  | f + 1, lv, x =>
    if isS x [123] = true ∧ 24 < lv then .error ((hdT x).i, 5)
    else thenQ (takeQ [123] x) fun _ y => setF (selQ (selsQ f (lv + 1))) (y.ts.length + 1) [] y
def setQ (x : PS) : PR (List D) := selsQ 25 1 x
def varsF : Nat → List D → PS → PR (List D)
  | 0, _, x => .error ((hdT x).i, 0)
  | f + 1, acc, x =>
    if acc.length ≠ 0 ∧ isS x [41] = true then .ok (acc, nxT x)
    else if isS x [36] = true ∧ 16 ≤ acc.length then .error ((hdT x).i, 4)
    else thenQ (takeQ [36] x) fun _ y => thenQ (nameQ y) fun n z => thenQ (takeQ [58] z) fun _ u => thenQ (typQ u) fun t v =>
      thenQ (if isS v [61] = true then thenQ (wholeQ { nxT v with vr := false }) fun d o => .ok ((true, d), { o with vr := true }) else .ok ((false, nullD), v)) fun d o =>
        varsF f (acc ++ [varD n t d.1 d.2]) o
def opQ (k : Int) (x : PS) : PR D :=
  thenQ (if (hdT x).k = 2 then .ok ((hdT x).s, nxT x) else .ok ([], x)) fun n y =>
    thenQ (if isS y [40] = true then varsF y.ts.length [] (nxT y) else .ok ([], y)) fun vs z =>
      thenQ (setQ z) fun ss u => .ok (opD k n vs ss, u)
def fragQ (x : PS) : PR D :=
  if (hdT x).s = onT then .error ((hdT x).i, 3)
  else thenQ (nameQ x) fun n y => if (hdT y).k = 2 ∧ (hdT y).s = onT then
    thenQ (nameQ (nxT y)) fun on z => thenQ (setQ z) fun ss u => .ok (fragD n on ss, u)
    else .error ((hdT y).i, 3)
def queryT : List UInt8 := [113, 117, 101, 114, 121]
def mutT : List UInt8 := [109, 117, 116, 97, 116, 105, 111, 110]
def subT : List UInt8 := [115, 117, 98, 115, 99, 114, 105, 112, 116, 105, 111, 110]
def fragT : List UInt8 := [102, 114, 97, 103, 109, 101, 110, 116]
def kindQ (s : List UInt8) : Int := if s = queryT then 1 else if s = mutT then 2 else if s = subT then 3 else 0
def docF : Nat → Nat → List D → List D → PS → PR (List D × List D)
  | 0, _, _, _, x => .error ((hdT x).i, 0)
  | f + 1, n, ops, frs, x =>
    if n ≠ 0 ∧ (hdT x).k = 5 then .ok ((ops, frs), x)
    else
      let w := (hdT x).k = 2 ∧ (0 < kindQ (hdT x).s ∨ (hdT x).s = fragT)
      if ¬ w ∧ ¬ isS x [123] = true then .error ((hdT x).i, 3)
      else if 64 ≤ n then .error ((hdT x).i, 4)
      else if ¬ w then thenQ (setQ x) fun ss y => docF f (n + 1) (ops ++ [opD 1 [] [] ss]) frs y
      else if 0 < kindQ (hdT x).s then thenQ (opQ (kindQ (hdT x).s) (nxT x)) fun o y => docF f (n + 1) (ops ++ [o]) frs y
      else thenQ (fragQ (nxT x)) fun o y => docF f (n + 1) ops (frs ++ [o]) y
def docQ (ts : List Tok) : PR (List D × List D) := docF (ts.length + 1) 0 [] [] ⟨ts, true, 0⟩
end Go.Proofs.YthjiclhfhjdjpaaGreatDoor
