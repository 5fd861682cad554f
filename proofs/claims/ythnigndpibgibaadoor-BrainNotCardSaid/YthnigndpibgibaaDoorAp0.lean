/- What each deed does, by kind. Printed by gn_ap.py. -/
import Derived.Test.YthnigndpibgibaaDoorGp
import Derived.Test.YthnigndpibgibaaDoorDe1
import Derived.Test.YthnigndpibgibaaDoorMde
import Derived.Test.YthnigndpibgibaaDoorDa
import Derived.Test.YthnigndpibgibaaDoorDb
namespace Go.Proofs.YthnigndpibgibaaDoor
open Go.RowKit Go.Shelf

/-- What is kept of a deed: its kind, how many numbers, its value, what comes of it, the box of what it does. -/
structure DeedJ where
  k : Int
  n : Nat
  fv : Value
  R : BrainV
  cl : List (Nat × FuncId)
def capOf (cl : List (Nat × FuncId)) : Array Value := (cl.map fun c => Value.pointer (some ⟨c.1, 0, none⟩)).toArray
def Boxed (V : World) (cl : List (Nat × FuncId)) : Prop := ∀ c ∈ cl, V.cell? ⟨c.1, 0, none⟩ = some (.func (.func c.2) #[] #[])
/-- A deed does what it does. -/
structure DeedOk (base : World) (b : Nat) (B : BrainV) (mv iv kv : Value) (s : Value) (L : List Int) (j : DeedJ) : Prop where
  form : ∃ fd, j.fv = .func (.func fd) #[] (capOf j.cl) ∧ (∀ args w, (callFunc fd args).run Tryd.prog w = .ok (.enter fd args) w) ∧
    (L.length = j.n → (∀ y ∈ L, badN y = false) → ∀ V, BO base b B mv iv kv V → Boxed V j.cl → Calls Tryd.prog fd (#[.pointer (some ⟨b, 0, none⟩), s] ++ capOf j.cl) V fun e V' => DeedEnd base b V j.R e V')
  one : j.cl = [] ∨ ∃ c, j.cl = [c]
def deedJs (p6 p7 p9 p10 p5 p12 p13 p14 p15 p16 : Nat) (B : BrainV) (L : List Int) : List DeedJ := [⟨1, 0, .func (.func 65) #[] #[], bootB B, []⟩, ⟨3, 3, .func (.func 66) #[] #[], intentB B (L.getD 0 0) (L.getD 1 0) (L.getD 2 0), []⟩, ⟨4, 3, .func (.func 67) #[] #[], madeB B L, []⟩, ⟨8, 5, .func (.func 68) #[] #[], takeB B L, []⟩, ⟨6, 3, .func (.func 88) #[] #[.pointer (some ⟨p6, 0, none⟩)], keptB B (fun i x => phaseB B i x (L.getD 1 0) (L.getD 2 0)) (L.getD 0 0), [(p6, 70)]⟩, ⟨7, 1, .func (.func 88) #[] #[.pointer (some ⟨p7, 0, none⟩)], keptB B (fun i _ => goneAt B i) (L.getD 0 0), [(p7, 72)]⟩, ⟨9, 2, .func (.func 88) #[] #[.pointer (some ⟨p9, 0, none⟩)], keptB B (fun i x => guardB B i x (L.getD 1 0)) (L.getD 0 0), [(p9, 74)]⟩, ⟨10, 1, .func (.func 88) #[] #[.pointer (some ⟨p10, 0, none⟩)], keptB B (fun i x => completeB B i x) (L.getD 0 0), [(p10, 75)]⟩, ⟨11, 2, .func (.func 76) #[] #[], startB B (L.getD 0 0) (L.getD 1 0), []⟩, ⟨5, 1, .func (.func 90) #[] #[.pointer (some ⟨p5, 0, none⟩)], activeB B (failB B), [(p5, 78)]⟩, ⟨12, 0, .func (.func 90) #[] #[.pointer (some ⟨p12, 0, none⟩)], activeB B (cancelB B), [(p12, 79)]⟩, ⟨13, 0, .func (.func 90) #[] #[.pointer (some ⟨p13, 0, none⟩)], activeB B (rollB B), [(p13, 80)]⟩, ⟨14, 1, .func (.func 90) #[] #[.pointer (some ⟨p14, 0, none⟩)], activeB B (pauseB B (L.getD 0 0)), [(p14, 81)]⟩, ⟨15, 0, .func (.func 90) #[] #[.pointer (some ⟨p15, 0, none⟩)], activeB B (goB B), [(p15, 82)]⟩, ⟨16, 0, .func (.func 90) #[] #[.pointer (some ⟨p16, 0, none⟩)], activeB B (doneB B), [(p16, 83)]⟩]
/-- How many numbers a record of a kind has, and what comes of it. -/
def deedTs (B : BrainV) (L : List Int) : List (Int × Nat × BrainV) := [(1, 0, bootB B), (3, 3, intentB B (L.getD 0 0) (L.getD 1 0) (L.getD 2 0)), (4, 3, madeB B L), (8, 5, takeB B L), (6, 3, keptB B (fun i x => phaseB B i x (L.getD 1 0) (L.getD 2 0)) (L.getD 0 0)), (7, 1, keptB B (fun i _ => goneAt B i) (L.getD 0 0)), (9, 2, keptB B (fun i x => guardB B i x (L.getD 1 0)) (L.getD 0 0)), (10, 1, keptB B (fun i x => completeB B i x) (L.getD 0 0)), (11, 2, startB B (L.getD 0 0) (L.getD 1 0)), (5, 1, activeB B (failB B)), (12, 0, activeB B (cancelB B)), (13, 0, activeB B (rollB B)), (14, 1, activeB B (pauseB B (L.getD 0 0))), (15, 0, activeB B (goB B)), (16, 0, activeB B (doneB B))]
set_option maxRecDepth 100000 in
set_option maxHeartbeats 2000000 in
theorem deeds_ok {base : World} {b : Nat} {B : BrainV} {mv iv kv : Value} (s : Value) (L : List Int) (p6 p7 p9 p10 p5 p12 p13 p14 p15 p16 : Nat) (hs : RowOf 1 encI base s L) (hC : Changes base) (hlI : B.I.length ≤ 1000) (hlK : B.K.length ≤ 1000) (hph : ∀ x ∈ B.K, in8 x.phase) :
    ∀ j ∈ deedJs p6 p7 p9 p10 p5 p12 p13 p14 p15 p16 B L, DeedOk base b B mv iv kv s L j := by
  intro j hj
  unfold deedJs at hj
  rcases List.mem_cons.1 hj with rfl | hj
  · exact ⟨⟨_, rfl, fun _ _ => rfl, fun hn hbad V h hc => d1_any s h⟩, .inl rfl⟩
  rcases List.mem_cons.1 hj with rfl | hj
  · exact ⟨⟨_, rfl, fun _ _ => rfl, fun hn hbad V h hc => intent_any s L hs hn h (by omega)⟩, .inl rfl⟩
  rcases List.mem_cons.1 hj with rfl | hj
  · exact ⟨⟨_, rfl, fun _ _ => rfl, fun hn hbad V h hc => made_any s L hs hn h hlI hlK⟩, .inl rfl⟩
  rcases List.mem_cons.1 hj with rfl | hj
  · exact ⟨⟨_, rfl, fun _ _ => rfl, fun hn hbad V h hc => take_any s L hs hn h hlK⟩, .inl rfl⟩
  rcases List.mem_cons.1 hj with rfl | hj
  · exact ⟨⟨_, rfl, fun _ _ => rfl, fun hn hbad V h hc => kept1_any _ (fun i x => phaseB B i x (L.getD 1 0) (L.getD 2 0)) p6 s L hs (by have q : L.length = 3 := hn; omega) h hlK (hc _ (List.mem_cons_self ..)) (fun _ _ => rfl) (fun U i x hU hx => d2_any s L hs hn hbad hC (h.below hU) i x hx (hph x (List.mem_of_getElem? hx)))⟩, .inr ⟨_, rfl⟩⟩
  rcases List.mem_cons.1 hj with rfl | hj
  · exact ⟨⟨_, rfl, fun _ _ => rfl, fun hn hbad V h hc => kept1_any _ (fun i _ => goneAt B i) p7 s L hs (by have q : L.length = 1 := hn; omega) h hlK (hc _ (List.mem_cons_self ..)) (fun _ _ => rfl) (fun U i x hU hx => d3_any s (h.below hU) i (lt_get hx) (by omega))⟩, .inr ⟨_, rfl⟩⟩
  rcases List.mem_cons.1 hj with rfl | hj
  · exact ⟨⟨_, rfl, fun _ _ => rfl, fun hn hbad V h hc => kept1_any _ (fun i x => guardB B i x (L.getD 1 0)) p9 s L hs (by have q : L.length = 2 := hn; omega) h hlK (hc _ (List.mem_cons_self ..)) (fun _ _ => rfl) (fun U i x hU hx => d4_any s L hs hn (h.below hU) i x hx)⟩, .inr ⟨_, rfl⟩⟩
  rcases List.mem_cons.1 hj with rfl | hj
  · exact ⟨⟨_, rfl, fun _ _ => rfl, fun hn hbad V h hc => kept1_any _ (fun i x => completeB B i x) p10 s L hs (by have q : L.length = 1 := hn; omega) h hlK (hc _ (List.mem_cons_self ..)) (fun _ _ => rfl) (fun U i x hU hx => d5_any s (h.below hU) i x hx)⟩, .inr ⟨_, rfl⟩⟩
  rcases List.mem_cons.1 hj with rfl | hj
  · exact ⟨⟨_, rfl, fun _ _ => rfl, fun hn hbad V h hc => d6_any s L hs hn h⟩, .inl rfl⟩
  rcases List.mem_cons.1 hj with rfl | hj
  · exact ⟨⟨_, rfl, fun _ _ => rfl, fun hn hbad V h hc => active1_any _ _ p5 s h (hc _ (List.mem_cons_self ..)) (fun _ _ => rfl) (fail_any s h)⟩, .inr ⟨_, rfl⟩⟩
  rcases List.mem_cons.1 hj with rfl | hj
  · exact ⟨⟨_, rfl, fun _ _ => rfl, fun hn hbad V h hc => active1_any _ _ p12 s h (hc _ (List.mem_cons_self ..)) (fun _ _ => rfl) (d7_any s h)⟩, .inr ⟨_, rfl⟩⟩
  rcases List.mem_cons.1 hj with rfl | hj
  · exact ⟨⟨_, rfl, fun _ _ => rfl, fun hn hbad V h hc => active1_any _ _ p13 s h (hc _ (List.mem_cons_self ..)) (fun _ _ => rfl) (d8_any s h)⟩, .inr ⟨_, rfl⟩⟩
  rcases List.mem_cons.1 hj with rfl | hj
  · exact ⟨⟨_, rfl, fun _ _ => rfl, fun hn hbad V h hc => active1_any _ _ p14 s h (hc _ (List.mem_cons_self ..)) (fun _ _ => rfl) (d9_any s L hs hn h)⟩, .inr ⟨_, rfl⟩⟩
  rcases List.mem_cons.1 hj with rfl | hj
  · exact ⟨⟨_, rfl, fun _ _ => rfl, fun hn hbad V h hc => active1_any _ _ p15 s h (hc _ (List.mem_cons_self ..)) (fun _ _ => rfl) (d10_any s h)⟩, .inr ⟨_, rfl⟩⟩
  rcases List.mem_cons.1 hj with rfl | hj
  · exact ⟨⟨_, rfl, fun _ _ => rfl, fun hn hbad V h hc => active1_any _ _ p16 s h (hc _ (List.mem_cons_self ..)) (fun _ _ => rfl) (d11_any s h)⟩, .inr ⟨_, rfl⟩⟩
  cases hj

theorem boxes_in {B : BrainV} {L : List Int} {p6 p7 p9 p10 p5 p12 p13 p14 p15 p16 : Nat} : ∀ j ∈ deedJs p6 p7 p9 p10 p5 p12 p13 p14 p15 p16 B L, ∀ c ∈ j.cl, c ∈ [(p16, 83), (p15, 82), (p14, 81), (p13, 80), (p12, 79), (p5, 78), (p10, 75), (p9, 74), (p7, 72), (p6, 70)] := by
  intro j hj
  unfold deedJs at hj
  rcases List.mem_cons.1 hj with rfl | hj
  · intro c hc; simp at hc
  rcases List.mem_cons.1 hj with rfl | hj
  · intro c hc; simp at hc
  rcases List.mem_cons.1 hj with rfl | hj
  · intro c hc; simp at hc
  rcases List.mem_cons.1 hj with rfl | hj
  · intro c hc; simp at hc
  rcases List.mem_cons.1 hj with rfl | hj
  · intro c hc; simp at hc; subst hc; simp
  rcases List.mem_cons.1 hj with rfl | hj
  · intro c hc; simp at hc; subst hc; simp
  rcases List.mem_cons.1 hj with rfl | hj
  · intro c hc; simp at hc; subst hc; simp
  rcases List.mem_cons.1 hj with rfl | hj
  · intro c hc; simp at hc; subst hc; simp
  rcases List.mem_cons.1 hj with rfl | hj
  · intro c hc; simp at hc
  rcases List.mem_cons.1 hj with rfl | hj
  · intro c hc; simp at hc; subst hc; simp
  rcases List.mem_cons.1 hj with rfl | hj
  · intro c hc; simp at hc; subst hc; simp
  rcases List.mem_cons.1 hj with rfl | hj
  · intro c hc; simp at hc; subst hc; simp
  rcases List.mem_cons.1 hj with rfl | hj
  · intro c hc; simp at hc; subst hc; simp
  rcases List.mem_cons.1 hj with rfl | hj
  · intro c hc; simp at hc; subst hc; simp
  rcases List.mem_cons.1 hj with rfl | hj
  · intro c hc; simp at hc; subst hc; simp
  cases hj

/-- What a look-up gives, of the map and of what comes of it alike. -/
theorem js_look (k : Int) : ∀ js : List DeedJ, (∃ j ∈ js, (js.map fun j => (j.k, deedV j.n j.fv)).lookup k = some (deedV j.n j.fv) ∧ (js.map fun j => (j.k, j.n, j.R)).lookup k = some (j.n, j.R)) ∨
    ((js.map fun j => (j.k, deedV j.n j.fv)).lookup k = none ∧ (js.map fun j => (j.k, j.n, j.R)).lookup k = none)
  | [] => .inr ⟨rfl, rfl⟩
  | j :: js => by
    by_cases h : k = j.k
    · subst h
      exact .inl ⟨j, List.mem_cons_self .., by simp, by simp⟩
    · have hb : (k == j.k) = false := by simpa using h
      simp only [List.map_cons, List.lookup, hb]
      rcases js_look k js with ⟨i, hi, h1, h2⟩ | h1
      · exact .inl ⟨i, List.mem_cons_of_mem _ hi, h1, h2⟩
      · exact .inr h1
/-- What is found under a kind. -/
def Pick (base : World) (b : Nat) (B : BrainV) (mv iv kv : Value) (s : Value) (L : List Int) (k : Int) (y : World) (W0 : World) (n : Int) (fv : Value) (ok : Bool) : Prop :=
  (ok = false ∧ (deedTs B L).lookup k = none) ∨
  (ok = true ∧ ∃ j : DeedJ, n = (j.n : Int) ∧ fv = j.fv ∧ (deedTs B L).lookup k = some (j.n, j.R) ∧ DeedOk base b B mv iv kv s L j ∧ Boxed y j.cl ∧ ∀ c ∈ j.cl, W0.heap.size ≤ c.1)
theorem deed_pick {base : World} {b : Nat} {B : BrainV} {mv iv kv : Value} {s : Value} {L : List Int} {W0 y : World} {m : Nat} {p6 p7 p9 p10 p5 p12 p13 p14 p15 p16 : Nat} (k : Int) (hd : DInv W0 m y [(1, deedV 0 (.func (.func 65) #[] #[])), (3, deedV 3 (.func (.func 66) #[] #[])), (4, deedV 3 (.func (.func 67) #[] #[])), (8, deedV 5 (.func (.func 68) #[] #[])), (6, deedV 3 (.func (.func 88) #[] #[.pointer (some ⟨p6, 0, none⟩)])), (7, deedV 1 (.func (.func 88) #[] #[.pointer (some ⟨p7, 0, none⟩)])), (9, deedV 2 (.func (.func 88) #[] #[.pointer (some ⟨p9, 0, none⟩)])), (10, deedV 1 (.func (.func 88) #[] #[.pointer (some ⟨p10, 0, none⟩)])), (11, deedV 2 (.func (.func 76) #[] #[])), (5, deedV 1 (.func (.func 90) #[] #[.pointer (some ⟨p5, 0, none⟩)])), (12, deedV 0 (.func (.func 90) #[] #[.pointer (some ⟨p12, 0, none⟩)])), (13, deedV 0 (.func (.func 90) #[] #[.pointer (some ⟨p13, 0, none⟩)])), (14, deedV 1 (.func (.func 90) #[] #[.pointer (some ⟨p14, 0, none⟩)])), (15, deedV 0 (.func (.func 90) #[] #[.pointer (some ⟨p15, 0, none⟩)])), (16, deedV 0 (.func (.func 90) #[] #[.pointer (some ⟨p16, 0, none⟩)]))] [(p16, 83), (p15, 82), (p14, 81), (p13, 80), (p12, 79), (p5, 78), (p10, 75), (p9, 74), (p7, 72), (p6, 70)])
    (hok : ∀ j ∈ deedJs p6 p7 p9 p10 p5 p12 p13 p14 p15 p16 B L, DeedOk base b B mv iv kv s L j) :
    ∃ n fv ok, (∀ w, DMap w m [(1, deedV 0 (.func (.func 65) #[] #[])), (3, deedV 3 (.func (.func 66) #[] #[])), (4, deedV 3 (.func (.func 67) #[] #[])), (8, deedV 5 (.func (.func 68) #[] #[])), (6, deedV 3 (.func (.func 88) #[] #[.pointer (some ⟨p6, 0, none⟩)])), (7, deedV 1 (.func (.func 88) #[] #[.pointer (some ⟨p7, 0, none⟩)])), (9, deedV 2 (.func (.func 88) #[] #[.pointer (some ⟨p9, 0, none⟩)])), (10, deedV 1 (.func (.func 88) #[] #[.pointer (some ⟨p10, 0, none⟩)])), (11, deedV 2 (.func (.func 76) #[] #[])), (5, deedV 1 (.func (.func 90) #[] #[.pointer (some ⟨p5, 0, none⟩)])), (12, deedV 0 (.func (.func 90) #[] #[.pointer (some ⟨p12, 0, none⟩)])), (13, deedV 0 (.func (.func 90) #[] #[.pointer (some ⟨p13, 0, none⟩)])), (14, deedV 1 (.func (.func 90) #[] #[.pointer (some ⟨p14, 0, none⟩)])), (15, deedV 0 (.func (.func 90) #[] #[.pointer (some ⟨p15, 0, none⟩)])), (16, deedV 0 (.func (.func 90) #[] #[.pointer (some ⟨p16, 0, none⟩)]))] → (Instr.lookup 99 (.map (some m)) (.int .u8 k) true).run Tryd.prog w = .ok (.tuple #[.agg #[.int .i64 n, fv], .bool ok]) w) ∧ fv.oneCell' = true ∧ Pick base b B mv iv kv s L k y W0 n fv ok := by
  have e1 : [(1, deedV 0 (.func (.func 65) #[] #[])), (3, deedV 3 (.func (.func 66) #[] #[])), (4, deedV 3 (.func (.func 67) #[] #[])), (8, deedV 5 (.func (.func 68) #[] #[])), (6, deedV 3 (.func (.func 88) #[] #[.pointer (some ⟨p6, 0, none⟩)])), (7, deedV 1 (.func (.func 88) #[] #[.pointer (some ⟨p7, 0, none⟩)])), (9, deedV 2 (.func (.func 88) #[] #[.pointer (some ⟨p9, 0, none⟩)])), (10, deedV 1 (.func (.func 88) #[] #[.pointer (some ⟨p10, 0, none⟩)])), (11, deedV 2 (.func (.func 76) #[] #[])), (5, deedV 1 (.func (.func 90) #[] #[.pointer (some ⟨p5, 0, none⟩)])), (12, deedV 0 (.func (.func 90) #[] #[.pointer (some ⟨p12, 0, none⟩)])), (13, deedV 0 (.func (.func 90) #[] #[.pointer (some ⟨p13, 0, none⟩)])), (14, deedV 1 (.func (.func 90) #[] #[.pointer (some ⟨p14, 0, none⟩)])), (15, deedV 0 (.func (.func 90) #[] #[.pointer (some ⟨p15, 0, none⟩)])), (16, deedV 0 (.func (.func 90) #[] #[.pointer (some ⟨p16, 0, none⟩)]))] = (deedJs p6 p7 p9 p10 p5 p12 p13 p14 p15 p16 B L).map fun j => (j.k, deedV j.n j.fv) := rfl
  have e2 : deedTs B L = (deedJs p6 p7 p9 p10 p5 p12 p13 p14 p15 p16 B L).map fun j => (j.k, j.n, j.R) := rfl
  rcases js_look k (deedJs p6 p7 p9 p10 p5 p12 p13 p14 p15 p16 B L) with ⟨j, hj, h1, h2⟩ | ⟨h1, h2⟩
  · have hdj := hok j hj
    obtain ⟨fd, hfv, _, _⟩ := hdj.form
    refine ⟨j.n, j.fv, true, fun w hw => ?_, by rw [hfv]; rfl, .inr ⟨rfl, j, rfl, rfl, by rw [e2]; exact h2, hdj, ?_, ?_⟩⟩
    · rw [look_run k w m _ hw, e1, h1]
      rfl
    · intro c hc
      exact (hd.boxes c (boxes_in j hj c hc)).2
    · intro c hc
      exact (hd.boxes c (boxes_in j hj c hc)).1.1
  · refine ⟨0, .nilFunc, false, fun w hw => ?_, rfl, .inl ⟨rfl, by rw [e2]; exact h2⟩⟩
    rw [look_run k w m _ hw, e1, h1]
    rfl
end Go.Proofs.YthnigndpibgibaaDoor
