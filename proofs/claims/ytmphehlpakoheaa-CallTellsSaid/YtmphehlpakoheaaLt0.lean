/- What the walk of CallLate wants: the law of Late in plain Lean, and the contracts at calls of at most sixty. -/
import Derived.Test.YtmphehlpakoheaaNm1
import Derived.Test.YtmphehlpakoheaaRfp
namespace Go.Proofs.Ytmphehlpakoheaa
open Go.RowKit Go.Shelf

def keepP (now tm : Int) (x : CallV) : Bool := decide (now - x.sent < tm)

theorem numB_iff {n : Int} : numB n = true ↔ 0 ≤ n ∧ n ≤ 1099511627776 := by unfold numB; simp
theorem right_sent {C : CallsV} (h : rightB C = true) : ∀ x ∈ C.opens, 0 ≤ x.sent ∧ x.sent ≤ 1099511627776 := fun x hx => numB_iff.1 (goR_nums _ _ _ (rightB_iff.1 h).2 x hx).2.2.1
theorem late_is {C : CallsV} {now tm : Int} (h : rightB C = true) (h0 : 0 ≤ now) (h1 : now ≤ 1099511627776) (h2 : 0 ≤ tm) (h3 : tm ≤ 1099511627776) : lateL C now tm = C.opens.filter (keepP now tm) := by
  unfold lateL keptL
  rw [if_pos (by rw [numB_iff.2 ⟨h0, h1⟩, numB_iff.2 ⟨h2, h3⟩]; rfl), if_pos h]
  refine List.filter_congr fun x hx => ?_
  have := right_sent h x hx
  unfold keepP wrap64
  exact decide_eq_decide.2 (by omega)
theorem late_twice {C : CallsV} {now tm : Int} (h : rightB C = true) (h0 : 0 ≤ now) (h1 : now ≤ 1099511627776) (h2 : 0 ≤ tm) (h3 : tm ≤ 1099511627776) :
    lateL ⟨C.epoch, C.next, C.opens.filter (keepP now tm)⟩ now tm = C.opens.filter (keepP now tm) := by
  rw [late_is (filter_right _ h) h0 h1 h2 h3]
  simp [List.filter_filter]

theorem filter_at {α : Type} (p : α → Bool) : ∀ (l : List α) (i : Nat) (x : α), l[i]? = some x → p x = true → (l.filter p)[((l.take i).filter p).length]? = some x
  | [], i, x, h, _ => by simp at h
  | a :: l, 0, x, h, hp => by simp at h; subst h; simp [hp]
  | a :: l, i + 1, x, h, hp => by
    have ih := filter_at p l i x (by simpa using h) hp
    simp only [List.take_succ_cons, List.filter_cons]
    split
    · simpa using ih
    · exact ih
theorem filter_yes {α : Type} (p : α → Bool) {l : List α} {i : Nat} {x : α} (h : l[i]? = some x) (hp : p x = true) : ((l.take (i + 1)).filter p).length = ((l.take i).filter p).length + 1 := by
  rw [take_snoc l i x h]; simp [hp]
theorem filter_no {α : Type} (p : α → Bool) {l : List α} {i : Nat} {x : α} (h : l[i]? = some x) (hp : p x = false) : ((l.take (i + 1)).filter p).length = ((l.take i).filter p).length := by
  rw [take_snoc l i x h]; simp [hp]

theorem lt_late (C : CallsV) (v : Value) (now tm : Int) (w : World) (hr : Row12 w v C.opens) (hl : C.opens.length ≤ 60) (hC : rightB C = true) (h0 : 0 ≤ now) (h1 : now ≤ 1099511627776) (h2 : 0 ≤ tm) (h3 : tm ≤ 1099511627776) :
    Calls Try.prog 23 #[calls C.epoch C.next v, .int .i64 now, .int .i64 tm] w fun e w' => ∃ a c, e = .returned (calls C.epoch C.next (.slice a (C.opens.filter (keepP now tm)).length c)) ∧ Row12 w' (.slice a (C.opens.filter (keepP now tm)).length c) (C.opens.filter (keepP now tm)) ∧ Below w.heap.size w w' := by
  refine (late_any C.epoch C.next now tm v C.opens w (by omega) hr).mono ?_
  rintro e w' ⟨v', he, ho, hb⟩
  rw [show (⟨C.epoch, C.next, C.opens⟩ : CallsV) = C from rfl, late_is hC h0 h1 h2 h3] at ho
  have hrow := own12_row ho
  obtain ⟨a, c, rfl⟩ := shape_row hrow
  exact ⟨a, c, he, hrow, hb⟩
theorem lt_late2 (C : CallsV) (v : Value) (now tm : Int) (w : World) (hr : Row12 w v (C.opens.filter (keepP now tm))) (hl : C.opens.length ≤ 60) (hC : rightB C = true) (h0 : 0 ≤ now) (h1 : now ≤ 1099511627776) (h2 : 0 ≤ tm) (h3 : tm ≤ 1099511627776) :
    Calls Try.prog 23 #[calls C.epoch C.next v, .int .i64 now, .int .i64 tm] w fun e w' => ∃ a c, e = .returned (calls C.epoch C.next (.slice a (C.opens.filter (keepP now tm)).length c)) ∧ Row12 w' (.slice a (C.opens.filter (keepP now tm)).length c) (C.opens.filter (keepP now tm)) ∧ Below w.heap.size w w' := by
  have hq := List.length_filter_le (keepP now tm) C.opens
  refine (late_any C.epoch C.next now tm v _ w (by omega) hr).mono ?_
  rintro e w' ⟨v', he, ho, hb⟩
  rw [late_twice hC h0 h1 h2 h3] at ho
  have hrow := own12_row ho
  obtain ⟨a, c, rfl⟩ := shape_row hrow
  exact ⟨a, c, he, hrow, hb⟩
theorem lt_same (ep nx : Int) (L : List CallV) (v v' : Value) (w : World) (hr : Row12 w v L) (hr' : Row12 w v' L) (hl : L.length ≤ 60) :
    Calls Try.prog 25 #[calls ep nx v, calls ep nx v'] w fun e w' => e = .returned (.bool true) ∧ Below w.heap.size w w' := by
  have h := same_any ep nx ep nx v v' L L w hr hr' (by omega) (by omega)
  rw [show sameV ⟨ep, nx, L⟩ ⟨ep, nx, L⟩ = true by simp [sameV]] at h
  exact h
theorem lt_great (C : CallsV) (a : Option Addr) (n c : Nat) (w : World) (b : Bool) (hb : decide ((60 : Int) < (n : Int)) = b) : Calls Try.prog 8 #[calls C.epoch C.next (.slice a n c)] w fun e w' => e = .returned (.bool b) ∧ Below w.heap.size w w' := by
  rw [← hb]; exact great_any _ _ _ _ _ _
theorem lt_right (C : CallsV) (v : Value) (w : World) (b : Bool) (hC : rightB C = b) (hwf : ∀ x ∈ C.opens, x.wf) (hr : Row12 w v C.opens) (hl : C.opens.length ≤ 60) :
    Calls Try.prog 9 #[calls C.epoch C.next v] w fun e w' => e = .returned (.bool b) ∧ Below w.heap.size w w' := by
  rw [← hC]; exact rright_any C.epoch C.next v C.opens w (by omega) hwf hr
end Go.Proofs.Ytmphehlpakoheaa
