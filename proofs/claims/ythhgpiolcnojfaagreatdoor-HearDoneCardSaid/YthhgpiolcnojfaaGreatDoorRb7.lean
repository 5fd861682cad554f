import Derived.Test.YthhgpiolcnojfaaGreatDoorBsi
import Derived.Test.YthhgpiolcnojfaaGreatDoorRa6
import Derived.Test.YthhgpiolcnojfaaGreatDoorPlk
import Derived.Test.YthhgpiolcnojfaaGreatDoorEsm
import Derived.Test.YthhgpiolcnojfaaGreatDoorGrr
import Derived.Test.YthhgpiolcnojfaaGreatDoorRow13
/- herdref13.All: records are applied. Printed by gn_ra7.py. -/
namespace Go.Proofs.YthhgpiolcnojfaaGreatDoor
open Go.RowKit Go.Shelf
attribute [-go_sem] loadVar storeVar Instr.buildSlice
attribute [local go_sem] load_other store_other

section
variable {w : World} {B : BrainV} {v r : Value}
theorem rapply_is (k : Int) (L : List Int) (n : Nat) (h : BrIs w B v) (hr : RecIs w k L r) (hF : Fine B n) (hn : n ≤ 999) (hM : B.M.length ≤ 17592186043904) (hL : L.length ≤ 100000) (hk4 : (k = 6 ∧ L.length = 3) ∨ (k = 7 ∧ L.length = 1)) :
  Calls Tryz.prog 20 #[v, r] w fun e w' => ∃ u, e = .returned u ∧ BrEnd w (applyB B k L) u w' ∧ Below w.heap.size w w' := by
 obtain ⟨s, rfl, hs⟩ := hr
 exact rapply_any B v s k L w h hs hL hM (by have := hF.1; omega) (by have := hF.2.1; omega) hk4 hF.2.2
end
end Go.Proofs.YthhgpiolcnojfaaGreatDoor

/- What BrainTells calls, of brains in hand: brain.Same, Find, Token. -/
namespace Go.Proofs.YthhgpiolcnojfaaGreatDoor
open Go.RowKit Go.Shelf

theorem arr_app (cs ds : Array Value) : (cs.toList ++ (ds.toList ++ [])).toArray = cs ++ ds := by simp
/-- Two brains, as a row. -/
theorem BrsR.two {w : World} {B C : BrainV} {u v : Value} {cs ds : Array Value} (h : BrIs w B u) (h' : BrIs w C v) (hu : u = .agg cs) (hv : v = .agg ds) :
  ∃ x y : BrR, x.B = B ∧ y.B = C ∧ BrsR (w.alloc (.cells (cs ++ ds) 30)) [x, y] (.slice (some ⟨w.heap.size, 0, none⟩) 2 2) := by
 obtain ⟨mv, iv, kv, e, h1, h2, h3⟩ := h
 obtain ⟨mv', iv', kv', e', g1, g2, g3⟩ := h'
 rw [hu] at e
 cases e
 rw [hv] at e'
 cases e'
 have hb : Below w.heap.size w (w.alloc (.cells (brT B.f B.g mv iv kv ++ brT C.f C.g mv' iv' kv') 30)) := (Below.refl _ _).alloc (Nat.le_refl _) _
 have hcells : (([(⟨B, mv, iv, kv⟩ : BrR), ⟨C, mv', iv', kv'⟩].flatMap encB).toArray) = brT B.f B.g mv iv kv ++ brT C.f C.g mv' iv' kv' := by
  simp only [List.flatMap_cons, List.flatMap_nil, encB]
  exact arr_app _ _
 refine ⟨⟨B, mv, iv, kv⟩, ⟨C, mv', iv', kv'⟩, rfl, rfl, row_blk (l := [(⟨B, mv, iv, kv⟩ : BrR), ⟨C, mv', iv', kv'⟩]) encB_len (by rw [hcells]; exact heap_new w _) (by simp) (show 2 ≤ maxLen by decide), ?_⟩
 intro x hx
 simp only [List.mem_cons, List.not_mem_nil, or_false] at hx
 rcases hx with rfl | rfl
 ·exact ⟨h1.below hb, h2.below hb, h3.below hb⟩
 ·exact ⟨g1.below hb, g2.below hb, g3.below hb⟩
end Go.Proofs.YthhgpiolcnojfaaGreatDoor
