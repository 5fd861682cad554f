import Derived.Test.YtgcajfglidflnaaGreatDoorSna
import Derived.Test.YtgcajfglidflnaaGreatDoorRcm
import Derived.Test.YtgcajfglidflnaaGreatDoorEqm
/- What a listing says: definitions. -/
namespace Go.Proofs.YtgcajfglidflnaaGreatDoor
open Go.RowKit Go.Shelf

abbrev RecP := Int × List Int
/-- The first that was seen of an id. -/
def firstS (l : List SeenV) (id : Int) : Option SeenV := l.find? (fun x => x.id == id)
/-- What is said of a Kept. -/
def keptR (s : Option SeenV) (k : KeptV) (now : Int) : Option RecP :=
 match s with
 | none => some (7, [k.id])
 | some x => if k.phase ≠ 4 ∨ (x.well = true ∧ x.inn = true) then none else if x.well = true then some (6, [k.id, 3, now]) else some (6, [k.id, 5, now])
def keptI (l : List SeenV) (frm now : Int) (k : KeptV) : Option RecP := if k.since < frm then keptR (firstS l k.id) k now else none
/-- What is said of one that is seen. -/
def seenI (B : BrainV) (now : Int) (x : SeenV) : Option RecP :=
 if 0 ≤ idxL B.K (fun y => y.id == x.id) then none
 else if 0 < x.token ∧ 0 ≤ idxL B.I (fun y => y.token == x.token) then some (4, [x.token, x.id, now])
 else some (8, [x.id, x.token, x.version, x.zone, now])
def applyL (B : BrainV) (l : List RecP) : BrainV := l.foldl (fun B r => applyB B r.1 r.2) B
def seenL (now : Int) : BrainV → List SeenV → List RecP
 | _, [] => []
 | B, x :: l => match seenI B now x with
  | none => seenL now B l
  | some r => r :: seenL now (applyB B r.1 r.2) l
def keptL21 (B : BrainV) (l : List SeenV) (frm now : Int) : List RecP := B.K.filterMap (keptI l frm now)
/-- All that is said, of a brain as it is then. -/
def itemsL (B : BrainV) (l : List SeenV) (frm now : Int) : List RecP :=
 keptL21 B l frm now ++ seenL now (applyL B (keptL21 B l frm now)) l
/-- What of it changes the brain. -/
def toldL : BrainV → List RecP → List RecP
 | _, [] => []
 | B, r :: l => (if sameB (applyB B r.1 r.2) B = true then [] else [r]) ++ toldL (applyB B r.1 r.2) l
def nowL (now : Int) : Int := min (max now 0) 1099511627776
def recordsL (B : BrainV) (l : List SeenV) (frm now : Int) : List RecP := toldL B (itemsL B l frm (nowL now))
end Go.Proofs.YtgcajfglidflnaaGreatDoor
