/- What is heard, in plain Lean; duty.Is of a brain in hand. -/
import Derived.Test.YthhgpiolcnojfaaGreatDoorHsm
import Derived.Test.YthhgpiolcnojfaaGreatDoorGtm
import Derived.Test.YthhgpiolcnojfaaGreatDoorIsm
import Derived.Test.YthhgpiolcnojfaaGreatDoorCam
namespace Go.Proofs.YthhgpiolcnojfaaGreatDoor
open Go.RowKit Go.Shelf

/-- What counts of what it says. -/
def countsL (B : BrainV) (x : CallV) (d i now : Int) : List (Int × List Int) :=
 match saysL x.kind d x.key i now with
 | none => []
 | some r => if (⟨x.kind, x.key⟩ : DutyV) ∈ dutiesL B.I B.K ∧ sameB (applyB B r.1 r.2) B = false then [r] else []
/-- What is heard: records. -/
def hearL (B : BrainV) (C : CallsV) (c k d i now : Int) : List (Int × List Int) :=
 if (heardL C.opens c k).2 = true ∧ (heardL C.opens c k).1.kind ≠ 7 then countsL B (heardL C.opens c k).1 d i now else []
/-- .. and the calls behind it. -/
def hearC (C : CallsV) (c k : Int) : List CallV :=
 if (heardL C.opens c k).2 = true ∧ (heardL C.opens c k).1.kind ≠ 7 then keptL C (fun x => x.id != (heardL C.opens c k).1.id) else C.opens
/-- Records in memory, their numbers. -/
def RecsL (w : World) (l : List (Int × List Int)) (v : Value) : Prop := ∃ R : List RecE, R.map (fun r => (r.k, r.L)) = l ∧ RecsR w R v
theorem RecsL.below {w w' : World} {l : List (Int × List Int)} {v : Value} (h : RecsL w l v) (hb : Below w.heap.size w w') : RecsL w' l v := by
 obtain ⟨R, h1, h2⟩ := h
 exact ⟨R, h1, h2.below hb⟩
theorem RecsL.nil (w : World) : RecsL w [] (.slice none 0 0) := ⟨[], rfl, row_nil w, fun x hx => by cases hx⟩
theorem is_is {B : BrainV} {v : Value} {w : World} (q : Bool) (kd ky : Int) (hq : decide ((⟨kd, ky⟩ : DutyV) ∈ dutiesL B.I B.K) = q) (h : BrIs w B v) (hA : Asked w) (hl1 : B.I.length ≤ 1000) (hl2 : B.K.length ≤ 1000) (hwf : ∀ x ∈ B.K, in8 x.phase) :
  Calls Tryz.prog 69 #[v, .agg #[.int .u8 kd, .int .i64 ky]] w fun e w' => e = .returned (.bool q) ∧ Below w.heap.size w w' := by
 obtain ⟨mv, iv, kv, rfl, h1, h2, h3⟩ := h
 rw [← hq]
 exact is_any _ iv kv (brT_bc _ _ _ _ _) B.I B.K ⟨kd, ky⟩ w hl1 hl2 hwf hA h2 h3
end Go.Proofs.YthhgpiolcnojfaaGreatDoor
