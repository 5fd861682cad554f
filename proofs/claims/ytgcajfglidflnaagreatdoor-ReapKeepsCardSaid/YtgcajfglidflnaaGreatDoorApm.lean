import Derived.Test.YtgcajfglidflnaaGreatDoorDfm
import Derived.Test.YtgcajfglidflnaaGreatDoorDe1
import Derived.Test.YtgcajfglidflnaaGreatDoorMde
import Derived.Test.YtgcajfglidflnaaGreatDoorDa
import Derived.Test.YtgcajfglidflnaaGreatDoorFkm
import Derived.Deep.RegionHeld3
/- What each deed does, by kind. Printed by gn_ap.py. -/
namespace Go.Proofs.YtgcajfglidflnaaGreatDoor
open Go.RowKit Go.Shelf

/-- What is kept of a deed: its kind, how many numbers, its value, what comes of it, the box of what it does. -/
structure DeedJ where
 k : Int
 n : Nat
 fv : Value
 R : BrainV
 cl : List (Nat × FuncId)
def capOf (cl : List (Nat × FuncId)) : Array Value := (cl.map fun c => Value.pointer (some ⟨c.1, 0, none⟩)).toArray
def Boxed (V : World) (cl : List (Nat × FuncId)) : Prop := ∀ c ∈ cl, V.cell? ⟨c.1, 0, none⟩ = some (.func (.func c.2) #[] #[])
/-- A deed does what it does. -/
structure DeedOk (base : World) (b : Nat) (B : BrainV) (mv iv kv : Value) (s : Value) (L : List Int) (j : DeedJ) : Prop where
 form : ∃ fd, j.fv = .func (.func fd) #[] (capOf j.cl) ∧ (∀ args w, (callFunc fd args).run Tryz.prog w = .ok (.enter fd args) w) ∧
  (L.length = j.n → (∀ y ∈ L, badN y = false) → ∀ V, BO base b B mv iv kv V → Boxed V j.cl → Calls Tryz.prog fd (#[.pointer (some ⟨b, 0, none⟩), s] ++ capOf j.cl) V fun e V' => DeedEnd base b V j.R e V')
 one : j.cl = [] ∨ ∃ c, j.cl = [c]
def deedJs (p6 p7 p9 p10 p5 p12 p13 p14 p15 p16 : Nat) (B : BrainV) (L : List Int) : List DeedJ := [⟨1, 0, .func (.func 73) #[] #[], bootB B, []⟩, ⟨3, 3, .func (.func 74) #[] #[], intentB B (L.getD 0 0) (L.getD 1 0) (L.getD 2 0), []⟩, ⟨4, 3, .func (.func 75) #[] #[], madeB B L, []⟩, ⟨8, 5, .func (.func 76) #[] #[], takeB B L, []⟩, ⟨6, 3, .func (.func 96) #[] #[.pointer (some ⟨p6, 0, none⟩)], keptB B (fun i x => phaseB B i x (L.getD 1 0) (L.getD 2 0)) (L.getD 0 0), [(p6, 78)]⟩, ⟨7, 1, .func (.func 96) #[] #[.pointer (some ⟨p7, 0, none⟩)], keptB B (fun i _ => goneAt B i) (L.getD 0 0), [(p7, 80)]⟩, ⟨9, 2, .func (.func 96) #[] #[.pointer (some ⟨p9, 0, none⟩)], keptB B (fun i x => guardB B i x (L.getD 1 0)) (L.getD 0 0), [(p9, 82)]⟩, ⟨10, 1, .func (.func 96) #[] #[.pointer (some ⟨p10, 0, none⟩)], keptB B (fun i x => completeB B i x) (L.getD 0 0), [(p10, 83)]⟩, ⟨11, 2, .func (.func 84) #[] #[], startB B (L.getD 0 0) (L.getD 1 0), []⟩, ⟨5, 1, .func (.func 98) #[] #[.pointer (some ⟨p5, 0, none⟩)], activeB B (failB B), [(p5, 86)]⟩, ⟨12, 0, .func (.func 98) #[] #[.pointer (some ⟨p12, 0, none⟩)], activeB B (cancelB B), [(p12, 87)]⟩, ⟨13, 0, .func (.func 98) #[] #[.pointer (some ⟨p13, 0, none⟩)], activeB B (rollB B), [(p13, 88)]⟩, ⟨14, 1, .func (.func 98) #[] #[.pointer (some ⟨p14, 0, none⟩)], activeB B (pauseB B (L.getD 0 0)), [(p14, 89)]⟩, ⟨15, 0, .func (.func 98) #[] #[.pointer (some ⟨p15, 0, none⟩)], activeB B (goB B), [(p15, 90)]⟩, ⟨16, 0, .func (.func 98) #[] #[.pointer (some ⟨p16, 0, none⟩)], activeB B (doneB B), [(p16, 91)]⟩]
/-- How many numbers a record of a kind has, and what comes of it. -/
def deedTs (B : BrainV) (L : List Int) : List (Int × Nat × BrainV) := [(1, 0, bootB B), (3, 3, intentB B (L.getD 0 0) (L.getD 1 0) (L.getD 2 0)), (4, 3, madeB B L), (8, 5, takeB B L), (6, 3, keptB B (fun i x => phaseB B i x (L.getD 1 0) (L.getD 2 0)) (L.getD 0 0)), (7, 1, keptB B (fun i _ => goneAt B i) (L.getD 0 0)), (9, 2, keptB B (fun i x => guardB B i x (L.getD 1 0)) (L.getD 0 0)), (10, 1, keptB B (fun i x => completeB B i x) (L.getD 0 0)), (11, 2, startB B (L.getD 0 0) (L.getD 1 0)), (5, 1, activeB B (failB B)), (12, 0, activeB B (cancelB B)), (13, 0, activeB B (rollB B)), (14, 1, activeB B (pauseB B (L.getD 0 0))), (15, 0, activeB B (goB B)), (16, 0, activeB B (doneB B))]
set_option maxRecDepth 100000 in
set_option maxHeartbeats 2000000 in
theorem deeds_ok {base : World} {b : Nat} {B : BrainV} {mv iv kv : Value} (s : Value) (L : List Int) (p6 p7 p9 p10 p5 p12 p13 p14 p15 p16 : Nat) (hs : RowOf 1 encI base s L) (hC : Changes base) (hlI : B.I.length ≤ 1000) (hlK : B.K.length ≤ 1000) (hph : ∀ x ∈ B.K, in8 x.phase) :
  ∀ j ∈ deedJs p6 p7 p9 p10 p5 p12 p13 p14 p15 p16 B L, DeedOk base b B mv iv kv s L j := by
 intro j hj
 unfold deedJs at hj
 rcases List.mem_cons.1 hj with rfl | hj
 ·exact ⟨⟨_, rfl, fun _ _ => rfl, fun hn hbad V h hc => d1_any s h⟩, .inl rfl⟩
 rcases List.mem_cons.1 hj with rfl | hj
 ·exact ⟨⟨_, rfl, fun _ _ => rfl, fun hn hbad V h hc => intent_any s L hs hn h (by omega)⟩, .inl rfl⟩
 rcases List.mem_cons.1 hj with rfl | hj
 ·exact ⟨⟨_, rfl, fun _ _ => rfl, fun hn hbad V h hc => made_any s L hs hn h hlI hlK⟩, .inl rfl⟩
 rcases List.mem_cons.1 hj with rfl | hj
 ·exact ⟨⟨_, rfl, fun _ _ => rfl, fun hn hbad V h hc => take_any s L hs hn h hlK⟩, .inl rfl⟩
 rcases List.mem_cons.1 hj with rfl | hj
 ·exact ⟨⟨_, rfl, fun _ _ => rfl, fun hn hbad V h hc => kept1_any _ (fun i x => phaseB B i x (L.getD 1 0) (L.getD 2 0)) p6 s L hs (by have q : L.length = 3 := hn; omega) h hlK (hc _ (List.mem_cons_self ..)) (fun _ _ => rfl) (fun U i x hU hx => d2_any s L hs hn hbad hC (h.below hU) i x hx (hph x (List.mem_of_getElem? hx)))⟩, .inr ⟨_, rfl⟩⟩
 rcases List.mem_cons.1 hj with rfl | hj
 ·exact ⟨⟨_, rfl, fun _ _ => rfl, fun hn hbad V h hc => kept1_any _ (fun i _ => goneAt B i) p7 s L hs (by have q : L.length = 1 := hn; omega) h hlK (hc _ (List.mem_cons_self ..)) (fun _ _ => rfl) (fun U i x hU hx => d3_any s (h.below hU) i (lt_get hx) (by omega))⟩, .inr ⟨_, rfl⟩⟩
 rcases List.mem_cons.1 hj with rfl | hj
 ·exact ⟨⟨_, rfl, fun _ _ => rfl, fun hn hbad V h hc => kept1_any _ (fun i x => guardB B i x (L.getD 1 0)) p9 s L hs (by have q : L.length = 2 := hn; omega) h hlK (hc _ (List.mem_cons_self ..)) (fun _ _ => rfl) (fun U i x hU hx => d4_any s L hs hn (h.below hU) i x hx)⟩, .inr ⟨_, rfl⟩⟩
 rcases List.mem_cons.1 hj with rfl | hj
 ·exact ⟨⟨_, rfl, fun _ _ => rfl, fun hn hbad V h hc => kept1_any _ (fun i x => completeB B i x) p10 s L hs (by have q : L.length = 1 := hn; omega) h hlK (hc _ (List.mem_cons_self ..)) (fun _ _ => rfl) (fun U i x hU hx => d5_any s (h.below hU) i x hx)⟩, .inr ⟨_, rfl⟩⟩
 rcases List.mem_cons.1 hj with rfl | hj
 ·exact ⟨⟨_, rfl, fun _ _ => rfl, fun hn hbad V h hc => d6_any s L hs hn h⟩, .inl rfl⟩
 rcases List.mem_cons.1 hj with rfl | hj
 ·exact ⟨⟨_, rfl, fun _ _ => rfl, fun hn hbad V h hc => active1_any _ _ p5 s h (hc _ (List.mem_cons_self ..)) (fun _ _ => rfl) (fail_any s h)⟩, .inr ⟨_, rfl⟩⟩
 rcases List.mem_cons.1 hj with rfl | hj
 ·exact ⟨⟨_, rfl, fun _ _ => rfl, fun hn hbad V h hc => active1_any _ _ p12 s h (hc _ (List.mem_cons_self ..)) (fun _ _ => rfl) (d7_any s h)⟩, .inr ⟨_, rfl⟩⟩
 rcases List.mem_cons.1 hj with rfl | hj
 ·exact ⟨⟨_, rfl, fun _ _ => rfl, fun hn hbad V h hc => active1_any _ _ p13 s h (hc _ (List.mem_cons_self ..)) (fun _ _ => rfl) (d8_any s h)⟩, .inr ⟨_, rfl⟩⟩
 rcases List.mem_cons.1 hj with rfl | hj
 ·exact ⟨⟨_, rfl, fun _ _ => rfl, fun hn hbad V h hc => active1_any _ _ p14 s h (hc _ (List.mem_cons_self ..)) (fun _ _ => rfl) (d9_any s L hs hn h)⟩, .inr ⟨_, rfl⟩⟩
 rcases List.mem_cons.1 hj with rfl | hj
 ·exact ⟨⟨_, rfl, fun _ _ => rfl, fun hn hbad V h hc => active1_any _ _ p15 s h (hc _ (List.mem_cons_self ..)) (fun _ _ => rfl) (d10_any s h)⟩, .inr ⟨_, rfl⟩⟩
 rcases List.mem_cons.1 hj with rfl | hj
 ·exact ⟨⟨_, rfl, fun _ _ => rfl, fun hn hbad V h hc => active1_any _ _ p16 s h (hc _ (List.mem_cons_self ..)) (fun _ _ => rfl) (d11_any s h)⟩, .inr ⟨_, rfl⟩⟩
 cases hj

theorem boxes_in {B : BrainV} {L : List Int} {p6 p7 p9 p10 p5 p12 p13 p14 p15 p16 : Nat} : ∀ j ∈ deedJs p6 p7 p9 p10 p5 p12 p13 p14 p15 p16 B L, ∀ c ∈ j.cl, c ∈ [(p16, 91), (p15, 90), (p14, 89), (p13, 88), (p12, 87), (p5, 86), (p10, 83), (p9, 82), (p7, 80), (p6, 78)] := by
 intro j hj
 unfold deedJs at hj
 rcases List.mem_cons.1 hj with rfl | hj
 ·intro c hc; simp at hc
 rcases List.mem_cons.1 hj with rfl | hj
 ·intro c hc; simp at hc
 rcases List.mem_cons.1 hj with rfl | hj
 ·intro c hc; simp at hc
 rcases List.mem_cons.1 hj with rfl | hj
 ·intro c hc; simp at hc
 rcases List.mem_cons.1 hj with rfl | hj
 ·intro c hc; simp at hc; subst hc; simp
 rcases List.mem_cons.1 hj with rfl | hj
 ·intro c hc; simp at hc; subst hc; simp
 rcases List.mem_cons.1 hj with rfl | hj
 ·intro c hc; simp at hc; subst hc; simp
 rcases List.mem_cons.1 hj with rfl | hj
 ·intro c hc; simp at hc; subst hc; simp
 rcases List.mem_cons.1 hj with rfl | hj
 ·intro c hc; simp at hc
 rcases List.mem_cons.1 hj with rfl | hj
 ·intro c hc; simp at hc; subst hc; simp
 rcases List.mem_cons.1 hj with rfl | hj
 ·intro c hc; simp at hc; subst hc; simp
 rcases List.mem_cons.1 hj with rfl | hj
 ·intro c hc; simp at hc; subst hc; simp
 rcases List.mem_cons.1 hj with rfl | hj
 ·intro c hc; simp at hc; subst hc; simp
 rcases List.mem_cons.1 hj with rfl | hj
 ·intro c hc; simp at hc; subst hc; simp
 rcases List.mem_cons.1 hj with rfl | hj
 ·intro c hc; simp at hc; subst hc; simp
 cases hj

/-- What a look-up gives, of the map and of what comes of it alike. -/
theorem js_look (k : Int) : ∀ js : List DeedJ, (∃ j ∈ js, (js.map fun j => (j.k, deedV j.n j.fv)).lookup k = some (deedV j.n j.fv) ∧ (js.map fun j => (j.k, j.n, j.R)).lookup k = some (j.n, j.R)) ∨
  ((js.map fun j => (j.k, deedV j.n j.fv)).lookup k = none ∧ (js.map fun j => (j.k, j.n, j.R)).lookup k = none)
 | [] => .inr ⟨rfl, rfl⟩
 | j :: js => by
  by_cases h : k = j.k
  ·subst h
   exact .inl ⟨j, List.mem_cons_self .., by simp, by simp⟩
  ·have hb : (k == j.k) = false := by simpa using h
   simp only [List.map_cons, List.lookup, hb]
   rcases js_look k js with ⟨i, hi, h1, h2⟩ | h1
   ·exact .inl ⟨i, List.mem_cons_of_mem _ hi, h1, h2⟩
   ·exact .inr h1
/-- What is found under a kind. -/
def Pick (base : World) (b : Nat) (B : BrainV) (mv iv kv : Value) (s : Value) (L : List Int) (k : Int) (y : World) (W0 : World) (n : Int) (fv : Value) (ok : Bool) : Prop :=
 (ok = false ∧ (deedTs B L).lookup k = none) ∨
 (ok = true ∧ ∃ j : DeedJ, n = (j.n : Int) ∧ fv = j.fv ∧ (deedTs B L).lookup k = some (j.n, j.R) ∧ DeedOk base b B mv iv kv s L j ∧ Boxed y j.cl ∧ ∀ c ∈ j.cl, W0.heap.size ≤ c.1)
theorem deed_pick {base : World} {b : Nat} {B : BrainV} {mv iv kv : Value} {s : Value} {L : List Int} {W0 y : World} {m : Nat} {p6 p7 p9 p10 p5 p12 p13 p14 p15 p16 : Nat} (k : Int) (hd : DInv W0 m y [(1, deedV 0 (.func (.func 73) #[] #[])), (3, deedV 3 (.func (.func 74) #[] #[])), (4, deedV 3 (.func (.func 75) #[] #[])), (8, deedV 5 (.func (.func 76) #[] #[])), (6, deedV 3 (.func (.func 96) #[] #[.pointer (some ⟨p6, 0, none⟩)])), (7, deedV 1 (.func (.func 96) #[] #[.pointer (some ⟨p7, 0, none⟩)])), (9, deedV 2 (.func (.func 96) #[] #[.pointer (some ⟨p9, 0, none⟩)])), (10, deedV 1 (.func (.func 96) #[] #[.pointer (some ⟨p10, 0, none⟩)])), (11, deedV 2 (.func (.func 84) #[] #[])), (5, deedV 1 (.func (.func 98) #[] #[.pointer (some ⟨p5, 0, none⟩)])), (12, deedV 0 (.func (.func 98) #[] #[.pointer (some ⟨p12, 0, none⟩)])), (13, deedV 0 (.func (.func 98) #[] #[.pointer (some ⟨p13, 0, none⟩)])), (14, deedV 1 (.func (.func 98) #[] #[.pointer (some ⟨p14, 0, none⟩)])), (15, deedV 0 (.func (.func 98) #[] #[.pointer (some ⟨p15, 0, none⟩)])), (16, deedV 0 (.func (.func 98) #[] #[.pointer (some ⟨p16, 0, none⟩)]))] [(p16, 91), (p15, 90), (p14, 89), (p13, 88), (p12, 87), (p5, 86), (p10, 83), (p9, 82), (p7, 80), (p6, 78)])
  (hok : ∀ j ∈ deedJs p6 p7 p9 p10 p5 p12 p13 p14 p15 p16 B L, DeedOk base b B mv iv kv s L j) :
  ∃ n fv ok, (∀ w, DMap w m [(1, deedV 0 (.func (.func 73) #[] #[])), (3, deedV 3 (.func (.func 74) #[] #[])), (4, deedV 3 (.func (.func 75) #[] #[])), (8, deedV 5 (.func (.func 76) #[] #[])), (6, deedV 3 (.func (.func 96) #[] #[.pointer (some ⟨p6, 0, none⟩)])), (7, deedV 1 (.func (.func 96) #[] #[.pointer (some ⟨p7, 0, none⟩)])), (9, deedV 2 (.func (.func 96) #[] #[.pointer (some ⟨p9, 0, none⟩)])), (10, deedV 1 (.func (.func 96) #[] #[.pointer (some ⟨p10, 0, none⟩)])), (11, deedV 2 (.func (.func 84) #[] #[])), (5, deedV 1 (.func (.func 98) #[] #[.pointer (some ⟨p5, 0, none⟩)])), (12, deedV 0 (.func (.func 98) #[] #[.pointer (some ⟨p12, 0, none⟩)])), (13, deedV 0 (.func (.func 98) #[] #[.pointer (some ⟨p13, 0, none⟩)])), (14, deedV 1 (.func (.func 98) #[] #[.pointer (some ⟨p14, 0, none⟩)])), (15, deedV 0 (.func (.func 98) #[] #[.pointer (some ⟨p15, 0, none⟩)])), (16, deedV 0 (.func (.func 98) #[] #[.pointer (some ⟨p16, 0, none⟩)]))] → (Instr.lookup 129 (.map (some m)) (.int .u8 k) true).run Tryz.prog w = .ok (.tuple #[.agg #[.int .i64 n, fv], .bool ok]) w) ∧ fv.oneCell' = true ∧ Pick base b B mv iv kv s L k y W0 n fv ok := by
 have e1 : [(1, deedV 0 (.func (.func 73) #[] #[])), (3, deedV 3 (.func (.func 74) #[] #[])), (4, deedV 3 (.func (.func 75) #[] #[])), (8, deedV 5 (.func (.func 76) #[] #[])), (6, deedV 3 (.func (.func 96) #[] #[.pointer (some ⟨p6, 0, none⟩)])), (7, deedV 1 (.func (.func 96) #[] #[.pointer (some ⟨p7, 0, none⟩)])), (9, deedV 2 (.func (.func 96) #[] #[.pointer (some ⟨p9, 0, none⟩)])), (10, deedV 1 (.func (.func 96) #[] #[.pointer (some ⟨p10, 0, none⟩)])), (11, deedV 2 (.func (.func 84) #[] #[])), (5, deedV 1 (.func (.func 98) #[] #[.pointer (some ⟨p5, 0, none⟩)])), (12, deedV 0 (.func (.func 98) #[] #[.pointer (some ⟨p12, 0, none⟩)])), (13, deedV 0 (.func (.func 98) #[] #[.pointer (some ⟨p13, 0, none⟩)])), (14, deedV 1 (.func (.func 98) #[] #[.pointer (some ⟨p14, 0, none⟩)])), (15, deedV 0 (.func (.func 98) #[] #[.pointer (some ⟨p15, 0, none⟩)])), (16, deedV 0 (.func (.func 98) #[] #[.pointer (some ⟨p16, 0, none⟩)]))] = (deedJs p6 p7 p9 p10 p5 p12 p13 p14 p15 p16 B L).map fun j => (j.k, deedV j.n j.fv) := rfl
 have e2 : deedTs B L = (deedJs p6 p7 p9 p10 p5 p12 p13 p14 p15 p16 B L).map fun j => (j.k, j.n, j.R) := rfl
 rcases js_look k (deedJs p6 p7 p9 p10 p5 p12 p13 p14 p15 p16 B L) with ⟨j, hj, h1, h2⟩ | ⟨h1, h2⟩
 ·have hdj := hok j hj
  obtain ⟨fd, hfv, _, _⟩ := hdj.form
  refine ⟨j.n, j.fv, true, fun w hw => ?_, by rw [hfv]; rfl, .inr ⟨rfl, j, rfl, rfl, by rw [e2]; exact h2, hdj, ?_, ?_⟩⟩
  ·rw [look_run k w m _ hw, e1, h1]
   rfl
  ·intro c hc
   exact (hd.boxes c (boxes_in j hj c hc)).2
  ·intro c hc
   exact (hd.boxes c (boxes_in j hj c hc)).1.1
 ·refine ⟨0, .nilFunc, false, fun w hw => ?_, rfl, .inl ⟨rfl, by rw [e2]; exact h2⟩⟩
  rw [look_run k w m _ hw, e1, h1]
  rfl
end Go.Proofs.YtgcajfglidflnaaGreatDoor

/- brain.apply: a record is applied. -/
namespace Go.Proofs.YtgcajfglidflnaaGreatDoor
open Go.RowKit Go.Shelf
attribute [-go_sem] loadVar
attribute [local go_sem] load_other
attribute [local go_sem] run_store_func

def applyB (B : BrainV) (k : Int) (L : List Int) : BrainV :=
 if L.any badN = true then B else if k = 2 then groupB B L else match (deedTs B L).lookup k with
  | none => B
  | some (n, R) => if L.length = n then R else B
def recV (k : Int) (s : Value) : Value := .agg #[.int .u8 k, s]
section
variable {base : World} {b : Nat} {B : BrainV} {mv iv kv : Value} {W : World}
theorem Pick.to {s : Value} {L : List Int} {k : Int} {y X W0 : World} {n : Int} {fv : Value} {ok : Bool} (h : Pick base b B mv iv kv s L k y W0 n fv ok) (hX : ∀ c : Nat × FuncId, W0.heap.size ≤ c.1 → y.cell? ⟨c.1, 0, none⟩ = some (.func (.func c.2) #[] #[]) → X.cell? ⟨c.1, 0, none⟩ = some (.func (.func c.2) #[] #[])) :
  Pick base b B mv iv kv s L k X W0 n fv ok := by
 rcases h with h | ⟨h1, j, h2, h3, h4, h5, h6, h7⟩
 ·exact .inl h
 ·exact .inr ⟨h1, j, h2, h3, h4, h5, fun c hc => hX c (h7 c hc) (h6 c hc), h7⟩
/-- What holds behind the look-up: how many numbers and what is done lie in a variable. -/
structure ApX (base : World) (b : Nat) (B : BrainV) (mv iv kv : Value) (s : Value) (L : List Int) (k : Int) (W X : World) (T4 : Nat) (n : Int) (fv : Value) (ok : Bool) : Prop where
 t0 : X.cell? ⟨T4, 0, none⟩ = some (.int .i64 n)
 t1 : X.cell? ⟨T4, 1, none⟩ = some fv
 r0 : X.cell? ⟨W.heap.size, 0, none⟩ = some (.int .u8 k)
 r1 : X.cell? ⟨W.heap.size, 1, none⟩ = some s
 bel : Below W.heap.size W X
 one : fv.oneCell' = true
 pick : ∃ W0, Pick base b B mv iv kv s L k X W0 n fv ok
def ApR (base : World) (b : Nat) (B : BrainV) (mv iv kv : Value) (s : Value) (L : List Int) (k : Int) (W : World) : Exit → Act → World → Prop
 | .normal, a', X => ∃ (T4 : Nat) (n : Int) (fv : Value) (ok : Bool) (u1 u2 u6 u7 u8 u9 u10 u11 u12 u13 u14 u15 u16 u17 u18 u19 u20 u21 u22 u23 u24 u25 u26 u27 u28 u29 u30 u31 u32 u33 u34 u35 u36 u37 u38 : Value), a' = { tmps := #[.pointer (some ⟨b, 0, none⟩), u1, u2, .pointer (some ⟨W.heap.size, 0, none⟩), .pointer (some ⟨T4, 0, none⟩), .bool ok, u6, u7, u8, u9, u10, u11, u12, u13, u14, u15, u16, u17, u18, u19, u20, u21, u22, u23, u24, u25, u26, u27, u28, u29, u30, u31, u32, u33, u34, u35, u36, u37, u38], defers := [] } ∧ ApX base b B mv iv kv s L k W X T4 n fv ok
 | _, _, _ => False
theorem apA {s : Value} {L : List Int} {k : Int} {W1 y : World} {n : Int} {fv : Value} {ok : Bool} (n1 : W1.heap[W.heap.size]? = some (.cells #[.int .u8 k, s] 70)) (hb1 : Below W.heap.size W W1) (hy : Below W1.heap.size W1 y) (hone : fv.oneCell' = true) (W0 : World)
  (hp : Pick base b B mv iv kv s L k y W0 n fv ok) : ApX base b B mv iv kv s L k W (y.alloc (.cells #[.int .i64 n, fv] 127)) y.heap.size n fv ok := by
 have hal : Below y.heap.size y (y.alloc (.cells #[.int .i64 n, fv] 127)) := (Below.refl _ _).alloc (Nat.le_refl _) _
 have hn := heap_new y (.cells #[.int .i64 n, fv] 127)
 have n2 := blk_below (blk_below n1 hy (blk_lt n1)) hal (Nat.lt_of_lt_of_le (blk_lt n1) hy.size)
 exact ⟨blk_cell hn 0, blk_cell hn 1, blk_cell n2 0, blk_cell n2 1, (hb1.trans (hy.mono hb1.size)).trans (hal.mono (Nat.le_trans hb1.size hy.size)), hone, W0, hp.to fun c _ hc => cell_below hc hal⟩
theorem apB {s : Value} {L : List Int} {k : Int} {W1 y : World} {n : Int} {fv : Value} {ok : Bool} {Z : Array Value} {W0 : World} (n1 : W1.heap[W.heap.size]? = some (.cells #[.int .u8 k, s] 70)) (hb1 : Below W.heap.size W W1) (hW0 : W0.heap.size = W1.heap.size + 1) (hy1 : Below W1.heap.size W1 y)
  (hz : y.heap[W1.heap.size]? = some (.cells Z 127)) (hZ : Z.size = 2) (hone : fv.oneCell' = true)
  (hp : Pick base b B mv iv kv s L k y W0 n fv ok) : ApX base b B mv iv kv s L k W ((y.setCell ⟨W1.heap.size, 0, none⟩ (.int .i64 n)).setCell ⟨W1.heap.size, 1, none⟩ fv) W1.heap.size n fv ok := by
 have hl1 : W.heap.size < W1.heap.size := blk_lt n1
 have z2 := blk_set (blk_set hz 0 (.int .i64 n)) 1 fv
 have n2 := blk_other (blk_other (blk_below n1 hy1 hl1) (p := ⟨W1.heap.size, 0, none⟩) (Nat.ne_of_lt hl1) (.int .i64 n)) (p := ⟨W1.heap.size, 1, none⟩) (Nat.ne_of_lt hl1) fv
 refine ⟨(blk_cell z2 0).trans ?_, (blk_cell z2 1).trans ?_, blk_cell n2 0, blk_cell n2 1, (((hb1.trans (hy1.mono hb1.size)).setCell (p := ⟨W1.heap.size, 0, none⟩) hb1.size _).setCell (p := ⟨W1.heap.size, 1, none⟩) hb1.size _), hone, W0, hp.to fun c hc h => ?_⟩
 ·rw [Array.getElem?_setIfInBounds]; simp [hZ]
 ·rw [Array.getElem?_setIfInBounds]; simp [hZ]
 ·rw [World.cell?_setCell_far _ _ _ _ (by dsimp only; omega), World.cell?_setCell_far _ _ _ _ (by dsimp only; omega)]
  exact h
set_option maxRecDepth 100000 in
set_option maxHeartbeats 4000000 in
theorem apply_any (k : Int) (s : Value) (L : List Int) (hs : RowOf 1 encI base s L) (hlen : L.length ≤ 100000) (hC : Changes base) (hLm : Limits base) (h : BO base b B mv iv kv W) (hlI : B.I.length ≤ 1000) (hlK : B.K.length ≤ 1000) (hph : ∀ x ∈ B.K, in8 x.phase) :
  Calls Tryz.prog 60 #[.pointer (some ⟨b, 0, none⟩), recV k s] W fun e W' => DeedEnd base b W (applyB B k L) e W' := by
 have HOK := hid (fun p6 p7 p9 p10 p5 p12 p13 p14 p15 p16 : Nat => deeds_ok (base := base) (b := b) (B := B) (mv := mv) (iv := iv) (kv := kv) s L p6 p7 p9 p10 p5 p12 p13 p14 p15 p16 hs hC hlI hlK hph)
 have HG := hid (fun V (hV : BO base b B mv iv kv V) => group_any s L hs hlen hLm hV)
 have HCB := hid (fun V (hV : Below base.heap.size base V) => containsB_any s L V (hs.below hV) (by omega))
 obtain ⟨sa, sc, rfl, hs1, hs2, hs3, hop⟩ := hs.open
 obtain ⟨W1, hW1⟩ : ∃ W1, W1 = W.alloc (.cells #[.int .u8 k, .slice sa L.length sc] 70) := ⟨_, rfl⟩
 have n1 : W1.heap[W.heap.size]? = some (.cells #[.int .u8 k, .slice sa L.length sc] 70) := by rw [hW1]; exact heap_new _ _
 have hb1 : Below W.heap.size W W1 := by rw [hW1]; exact (Below.refl _ _).alloc (Nat.le_refl _) _
 have H := hid h
 have HW1 := hid hW1
 have N1 := hid n1
 have HB1 := hid hb1
 have hmf := mkfunc
 obtain ⟨R, hR⟩ : ∃ R, applyB B k L = R := ⟨_, rfl⟩
 rw [hR]
 have HR := hid hR
 have hl1 : W.heap.size < W1.heap.size := blk_lt n1
 have k0 : W1.drew.cell? ⟨W.heap.size, 0, none⟩ = some (.int .u8 k) := blk_cell n1 0
 have HS0 := hid k0
 have HS1 := hid (cell_below k0 ((Below.refl _ _).alloc (Nat.le_refl _) (.cells #[.int .i64 0, .nilFunc] 127)))
 clear hop h hR n1 hb1 hW1
 unfold recV
 go_enter Tryz.func60, Tryz.ntmps60
 go_wp2_with fail
 rw [← HW1.out]
 refine wp_scope_jumps 0 (fun a' w' => a'.defers = [] ∧ DeedEnd base b W R (.returned (.tuple #[])) w') (fun _ _ => 0) rfl ?first ?pass
 case pass =>
  rintro a' w' ⟨hd, hE⟩
  go_wp2
  simp only [Exit.jump]
  exact bodyPost_end (results_none rfl _ _ _) hd hE
 case first =>
  go_wp2_with fail
  refine wp_mono (Q := ApR base b B mv iv kv (.slice sa L.length sc) L k W) ?region ?rest
  case region =>
   go_region_held3 (fun w' => w'.cell? ⟨W.heap.size, 0, none⟩ = some (.int .u8 k)) (first | exact HS0.out | exact HS1.out | exact HS2.out | exact HS3.out | exact HS4.out | exact HS5.out) ((go_at_call 68; refine (deeds_any _).mono ?_; rintro e y ⟨m, p6, p7, p9, p10, p5, p12, p13, p14, p15, p16, rfl, hd⟩; obtain ⟨n, fv, ok, hlk, hone, hpk⟩ := deed_pick k hd (HOK.out p6 p7 p9 p10 p5 p12 p13 p14 p15 p16); have hlk1 := hlk y hd.map; have hlk2 := hlk (y.alloc (.cells #[.int .i64 0, .nilFunc] 127)) (hd.map.below ((Below.refl _ _).alloc (Nat.le_refl _) _) hd.map.lt); have hsf : ∀ w a, (store a fv).run Tryz.prog w = stored Tryz.prog w a fv .plain := fun w a => run_store _ w a fv _ hone; have HPK := hid hpk; have HBD := hid hd.bel; have HS2 := hid (show y.cell? ⟨W.heap.size, 0, none⟩ = some (.int .u8 k) from by first | exact cell_below HS0.out hd.bel | exact cell_below HS1.out hd.bel); have HS3 := hid (cell_below HS2.out ((Below.refl _ _).alloc (Nat.le_refl _) (.cells #[.int .i64 0, .nilFunc] 127))); have HS4 := hid (cell_below HS2.out ((Below.refl _ _).alloc (Nat.le_refl _) (.cells #[.int .i64 n, fv] 127))); have HS5 := hid (show ((y.setCell ⟨W1.heap.size, 0, none⟩ (.int .i64 n)).setCell ⟨W1.heap.size, 1, none⟩ fv).cell? ⟨W.heap.size, 0, none⟩ = some (.int .u8 k) from by rw [World.cell?_setCell_far _ _ _ _ (by dsimp only; omega), World.cell?_setCell_far _ _ _ _ (by dsimp only; omega)]; exact HS2.out); try (have z := blk_below (heap_new W1.drew (.cells #[.int .i64 0, .nilFunc] 127)) hd.bel (by simp); have zc0 : y.cell? ⟨W1.heap.size, 0, none⟩ = some (.int .i64 0) := blk_cell z 0; have zc1 : y.cell? ⟨W1.heap.size, 1, none⟩ = some .nilFunc := blk_cell z 1; have zf0 : y.frozen? ⟨W1.heap.size, 0, none⟩ = false := blk_free z 0; have zf1 : y.frozen? ⟨W1.heap.size, 1, none⟩ = false := blk_free z 1; have ZZ := hid z; have zl : W1.heap.size < y.heap.size := blk_lt z; clear z); clear hlk hpk hd))
   all_goals
    first
     | exact ⟨_, n, fv, ok, _, _, _, _, _, _, _, _, _, _, _, _, _, _, _, _, _, _, _, _, _, _, _, _, _, _, _, _, _, _, _, _, _, _, _, rfl, apA N1.out HB1.out ((below_drewN (Below.refl W1.heap.size W1) 1).trans HBD.out) hone _ HPK.out⟩
     | exact ⟨_, n, fv, ok, _, _, _, _, _, _, _, _, _, _, _, _, _, _, _, _, _, _, _, _, _, _, _, _, _, _, _, _, _, _, _, _, _, _, _, rfl, apB N1.out HB1.out (by simp) (((below_drewN (Below.refl W1.heap.size W1) 1).alloc (Nat.le_refl _) _).trans (HBD.out.mono (by simp))) ZZ.out rfl hone HPK.out⟩
  case rest =>
   intro e a' X hR
   match e, hR with
   | .normal, hR =>
   obtain ⟨T4, n, fv, ok, u1, u2, u6, u7, u8, u9, u10, u11, u12, u13, u14, u15, u16, u17, u18, u19, u20, u21, u22, u23, u24, u25, u26, u27, u28, u29, u30, u31, u32, u33, u34, u35, u36, u37, u38, rfl, hX⟩ := hR
   dsimp only
   have HX := hid hX
   have HBX := hid (H.out.bel.trans (hX.bel.mono H.out.bel.size))
   have t0 := hX.t0
   have r0 := hX.r0
   have r1 := hX.r1
   have l0 := lt_of_cell t0
   have l1 := lt_of_cell r0
   dsimp only at l0 l1
   obtain ⟨q, hq⟩ : ∃ q, L.any badN = q := ⟨_, rfl⟩
   have hcb := HCB.out X HBX.out
   rw [hq] at hcb
   have HC := hid hcb
   have HQ := hid hq
   clear hX hcb hq k0
   go_wp2_with fail
   refine HC.out.mono ?_
   rintro e V ⟨rfl, hb⟩
   have HBV := hid (HX.out.bel.trans (hb.mono HX.out.bel.size))
   have HV := hid (H.out.below HBV.out)
   have t0 := cell_below t0 hb
   have t1 := cell_below HX.out.t1 hb
   have r0 := cell_below r0 hb
   have r1 := cell_below r1 hb
   have l0 : T4 < V.heap.size := Nat.lt_of_lt_of_le l0 hb.size
   have l1 : W.heap.size < V.heap.size := Nat.lt_of_lt_of_le l1 hb.size
   have HPV : Hid (∃ W0, Pick base b B mv iv kv (.slice sa L.length sc) L k V W0 n fv ok) := by
    obtain ⟨W0, hp⟩ := HX.out.pick
    exact ⟨W0, hp.to fun c _ hc => cell_below hc hb⟩
   have hone := HX.out.one
   clear hb
   cases q with
   | true =>
    obtain rfl : B = R := by rw [← HR.out]; unfold applyB; rw [if_pos HQ.out]
    go_wp2
    refine wp_goto ?_
    simp only [Exit.then]
    exact ⟨rfl, rfl, rfl, ⟨_, _, _, HV.out⟩, KeepsX.below HBV.out⟩
   | false =>
    by_cases hk : k = 2
    ·subst hk
     have HGG := hid (HG.out V HV.out)
     have HRX := hid (show R = groupB B L by rw [← HR.out]; unfold applyB; rw [HQ.out]; rfl)
     go_wp2_with fail
     refine HGG.out.mono ?_
     rintro e y hde
     have HD := hid (deed_after HBV.out hde)
     obtain rfl := hde.1
     clear hde
     go_wp2
     simp only [Exit.jump]
     refine bodyPost_ret (results_none rfl _ _ _) rfl ?_
     rw [HRX.out]
     exact HD.out
    ·have hk2 : (k == 2) = false := by simpa using hk
     have hR2 : (match (deedTs B L).lookup k with | none => B | some (n, R) => if L.length = n then R else B) = R := by
      rw [← HR.out]; unfold applyB; rw [HQ.out, if_neg (by decide), if_neg hk]
     obtain ⟨W0, hpk⟩ := HPV.out
     rcases hpk with ⟨rfl, hno⟩ | ⟨rfl, j, rfl, rfl, hlk, hok, hbox, _⟩
     ·obtain rfl : B = R := by rw [← hR2, hno]
      clear hR2 hno
      go_wp2
      refine wp_goto ?_
      simp only [Exit.then]
      exact ⟨rfl, rfl, rfl, ⟨_, _, _, HV.out⟩, KeepsX.below HBV.out⟩
     ·rw [hlk] at hR2
      dsimp only at hR2
      by_cases hn : L.length = j.n
      ·rw [if_pos hn] at hR2
       subst hR2
       have hne : ((L.length : Int) != (j.n : Int)) = false := by simp [hn]
       obtain ⟨fd, hfv, hcf, hcall⟩ := hok.form
       have hbad : ∀ y ∈ L, badN y = false := fun y hy => by
        have := List.any_eq_false.1 HQ.out y hy
        simpa using this
       have hc := hcall hn hbad V HV.out hbox
       rw [hfv] at t1
       rcases hok.one with h0 | ⟨c, h0⟩
       all_goals
        rw [h0] at t1 hc
        simp only [capOf, List.map_cons, List.map_nil, List.append_toArray, List.cons_append, List.nil_append] at t1 hc
        have HCL := hid hc
        have HN := hid hn
        clear hc hcall hbox hok hlk hone hfv hn
        go_wp2_with fail
        refine HCL.out.mono ?_
        rintro e y hde
        have HD := hid (deed_after HBV.out hde)
        obtain rfl := hde.1
        clear hde
        go_wp2
        refine wp_label ?_
        go_wp2
        try simp only [Exit.jump]
        refine bodyPost_end (results_none rfl _ _ _) rfl ?_
        exact HD.out
      ·rw [if_neg hn] at hR2
       subst hR2
       have hne : ((L.length : Int) != (j.n : Int)) = true := by simp; omega
       clear hlk hok hbox
       go_wp2
       refine wp_goto ?_
       simp only [Exit.then]
       exact ⟨rfl, rfl, rfl, ⟨_, _, _, HV.out⟩, KeepsX.below HBV.out⟩
end
end Go.Proofs.YtgcajfglidflnaaGreatDoor
