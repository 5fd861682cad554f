/- The reference's Right answers as the program's does. -/
import Derived.Test.YtljmhmdpihpafaaDoorRfr
namespace Go.Proofs.YtljmhmdpihpafaaDoor
open Go.RowKit Go.Shelf

def lastId (b : Int) (pre : List CallV) : Int := match pre.getLast? with | none => b | some y => y.id
def keysOf (pre : List CallV) : List (Int × Int) := pre.map fun x => (x.kind, x.key)

theorem keysOf_has (pre : List CallV) (k y : Int) : hasB pre k y = false ↔ (k, y) ∉ keysOf pre := by
  unfold hasB keysOf
  rw [List.any_eq_false, List.mem_map]
  constructor
  · rintro h ⟨x, hx, he⟩
    have := h x hx
    simp only [Prod.mk.injEq] at he
    simp [he.1, he.2] at this
  · intro h x hx hb
    apply h
    simp only [Bool.and_eq_true, beq_iff_eq] at hb
    exact ⟨x, hx, by rw [hb.1, hb.2]⟩

theorem refAt_iff {ep nx : Int} (h1 : 0 ≤ ep) (h2 : ep ≤ 524288) (h3 : 1 ≤ nx) (h4 : nx ≤ 1048576) {pre : List CallV} {x : CallV} (hx : in64 x.id) (hL : ep * 1048576 ≤ lastId (ep * 1048576) pre) :
    refAt ep nx pre x = true ↔ (kindB x.kind = true ∧ numB x.key = true ∧ numB x.sent = true ∧ lastId (ep * 1048576) pre < x.id ∧ x.id < ep * 1048576 + nx ∧ (x.kind, x.key) ∉ keysOf pre) := by
  obtain ⟨hx1, hx2⟩ := hx
  have hw : (1 ≤ wrap64 (x.id - ep * 1048576) ∧ wrap64 (x.id - ep * 1048576) < nx) ↔ (ep * 1048576 < x.id ∧ x.id < ep * 1048576 + nx) := by
    unfold wrap64
    constructor <;> intro h <;> omega
  have hlast : ((∀ y, pre.getLast? = some y → y.id < x.id) ∧ ep * 1048576 < x.id) ↔ lastId (ep * 1048576) pre < x.id := by
    unfold lastId at hL ⊢
    cases hp : pre.getLast? with
    | none => simp
    | some y =>
      rw [hp] at hL
      simp only at hL ⊢
      constructor
      · rintro ⟨h, _⟩; exact h y rfl
      · intro h; exact ⟨fun z hz => by cases hz; exact h, by omega⟩
  constructor
  · intro h
    by_cases hc : (1 ≤ wrap64 (x.id - ep * 1048576) ∧ wrap64 (x.id - ep * 1048576) < nx ∧ (∀ y, pre.getLast? = some y → y.id < x.id) ∧ kindB x.kind = true ∧ numB x.key = true ∧ numB x.sent = true ∧ hasB pre x.kind x.key = false)
    · obtain ⟨a, b, c, d, e, f, g⟩ := hc
      have hab := hw.1 ⟨a, b⟩
      exact ⟨d, e, f, hlast.1 ⟨c, hab.1⟩, hab.2, (keysOf_has _ _ _).1 g⟩
    · rw [refAt_not hc] at h; cases h
  · rintro ⟨d, e, f, l, m, g⟩
    have hl := hlast.2 l
    have hab := hw.2 ⟨hl.2, m⟩
    exact refAt_yes ⟨hab.1, hab.2, hl.1, d, e, f, (keysOf_has _ _ _).2 g⟩

theorem goF_goR {ep nx : Int} (h1 : 0 ≤ ep) (h2 : ep ≤ 524288) (h3 : 1 ≤ nx) (h4 : nx ≤ 1048576) : ∀ (l pre : List CallV), (∀ x ∈ l, x.wf) → ep * 1048576 ≤ lastId (ep * 1048576) pre →
    goF ep nx pre l = goR (ep * 1048576 + nx) (lastId (ep * 1048576) pre) (keysOf pre) l
  | [], _, _, _ => rfl
  | x :: xs, pre, hwf, hL => by
    have hx := (hwf x (List.mem_cons_self ..)).1
    have hi := refAt_iff h1 h2 h3 h4 hx hL
    by_cases hr : refAt ep nx pre x = true
    · obtain ⟨a, b, c, d, e, f⟩ := hi.1 hr
      have hl' : lastId (ep * 1048576) (pre ++ [x]) = x.id := by simp [lastId]
      rw [goF_step hr, goF_goR h1 h2 h3 h4 xs (pre ++ [x]) (fun y hy => hwf y (List.mem_cons_of_mem _ hy)) (by rw [hl']; omega), hl',
        goR_step a b c d e f]
      congr 1
      simp [keysOf]
    · have hr' : refAt ep nx pre x = false := by simpa using hr
      rw [goF_not hr', goR_not]
      rintro ⟨a, b, c, d, e⟩
      rw [Bool.and_eq_true] at b
      exact hr (hi.2 ⟨a, b.1, b.2, c, d, e⟩)

set_option maxHeartbeats 400000 in
set_option maxRecDepth 10000 in
theorem rright_out (ep nx : Int) (s : Value) (w : World) (h : ¬ (0 ≤ ep ∧ ep ≤ 524288 ∧ 1 ≤ nx ∧ nx ≤ 1048576)) :
    Calls Tryd.prog 8 #[calls ep nx s] w fun e w' => e = .returned (.bool false) ∧ Below w.heap.size w w' := by
  unfold calls
  by_cases h1 : 0 ≤ ep
  · have d1 : decide (ep < 0) = false := by simp; omega
    by_cases h2 : ep ≤ 524288
    · have d2 : decide (524288 < ep) = false := by simp; omega
      by_cases h3 : 1 ≤ nx
      · have d3 : decide (nx < 1) = false := by simp; omega
        have d4 : decide (1048576 < nx) = true := by simp; omega
        go_enter Tryd.func8, Tryd.ntmps8
        go_wp2
        go_ret
        exact ⟨rfl, (Below.refl _ _).alloc (Nat.le_refl _) _⟩
      · have d3 : decide (nx < 1) = true := by simp; omega
        go_enter Tryd.func8, Tryd.ntmps8
        go_wp2
        go_ret
        exact ⟨rfl, (Below.refl _ _).alloc (Nat.le_refl _) _⟩
    · have d2 : decide (524288 < ep) = true := by simp; omega
      go_enter Tryd.func8, Tryd.ntmps8
      go_wp2
      go_ret
      exact ⟨rfl, (Below.refl _ _).alloc (Nat.le_refl _) _⟩
  · have d1 : decide (ep < 0) = true := by simp; omega
    go_enter Tryd.func8, Tryd.ntmps8
    go_wp2
    go_ret
    exact ⟨rfl, (Below.refl _ _).alloc (Nat.le_refl _) _⟩

theorem rright_any (ep nx : Int) (s : Value) (l : List CallV) (w : World) (hn : l.length ≤ 1000000) (hwf : ∀ x ∈ l, x.wf) (hs : Row12 w s l) :
    Calls Tryd.prog 8 #[calls ep nx s] w fun e w' => e = .returned (.bool (rightB ⟨ep, nx, l⟩)) ∧ Below w.heap.size w w' := by
  by_cases h : 0 ≤ ep ∧ ep ≤ 524288 ∧ 1 ≤ nx ∧ nx ≤ 1048576
  · have : rightB ⟨ep, nx, l⟩ = goF ep nx [] l := by
      rw [goF_goR h.1 h.2.1 h.2.2.1 h.2.2.2 l [] hwf (Int.le_refl _)]
      simp [rightB, h, lastId, keysOf]
    rw [this]
    exact rright_in ep nx s l w hn hs h.1 h.2.1 h.2.2.1 h.2.2.2
  · have : rightB ⟨ep, nx, l⟩ = false := by
      apply Bool.eq_false_iff.2
      intro hb
      exact h (rightB_iff.1 hb).1
    rw [this]
    exact rright_out ep nx s w h
end Go.Proofs.YtljmhmdpihpafaaDoor
