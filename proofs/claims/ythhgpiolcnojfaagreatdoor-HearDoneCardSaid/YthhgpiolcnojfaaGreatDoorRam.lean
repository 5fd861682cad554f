import Derived.Test.YthhgpiolcnojfaaGreatDoorVd
import Derived.Test.YthhgpiolcnojfaaGreatDoorGtm
import Derived.Test.YthhgpiolcnojfaaGreatDoorPlk
import Derived.BigQuiet
import Derived.Deep.Cut
/- Parts of a slice: how they are run, what they read as. -/
namespace Go.Proofs.YthhgpiolcnojfaaGreatDoor
open Go.RowKit Go.Shelf
section
variable {P : Program} {α : Type} {k : Nat} {enc : α → List Value} {w : World} {l : List α} {a : Option Addr} {c : Nat}
theorem run_from (t e : TypeId) (i : TypeInfo) (ht : P.underlying t = some (.slice (P.elem t))) (he : P.elem t = e) (hi : P.info? e = some i) (hs : i.size = k) (a : Option Addr) (n c m : Nat) (hm : m ≤ n) (w : World) :
  (Instr.sliceAt t (.slice a n c) (some (.int .i64 (m : Int))) none none).run P w = .ok (sliced a m n c k) w := by
 rw [run_sliceAt_slice w t _ _ _ _ ht, run_slice_l w t a n c ht .i64 m (by omega) (by omega), he]
 simp [sizeOf, typeInfo, hi, hs, Result.andThen]
theorem run_upto (t e : TypeId) (i : TypeInfo) (ht : P.underlying t = some (.slice (P.elem t))) (he : P.elem t = e) (hi : P.info? e = some i) (hs : i.size = k) (a : Option Addr) (n c m : Nat) (hm : m ≤ c) (w : World) :
  (Instr.sliceAt t (.slice a n c) none (some (.int .i64 (m : Int))) none).run P w = .ok (sliced a 0 m c k) w := by
 rw [run_sliceAt_slice w t _ _ _ _ ht, run_slice_h w t a n c ht .i64 m (by omega) (by omega), he]
 simp [sizeOf, typeInfo, hi, hs, Result.andThen]
theorem row_from (h : RowOf k enc w (.slice a l.length c) l) {m : Nat} (hm : m ≤ l.length) : RowOf k enc w (sliced a m l.length c k) (l.drop m) := by
 rcases h with ⟨ad, c', e, rfl, h1, h2⟩ | ⟨h0, b, off, c', e, h1, h2, hb, hrow⟩
 ·simp at hm
  subst hm
  simp only [List.length_nil, Value.slice.injEq, true_and] at e
  obtain ⟨rfl, rfl⟩ := e
  refine .inl ⟨_, c - 0, rfl, rfl, fun hn => ?_, by omega⟩
  split at hn
  ·have := h1 hn; omega
  ·cases a with
   | none => have := h1 rfl; omega
   | some x => simp at hn
 ·simp only [Value.slice.injEq, true_and] at e
  obtain ⟨rfl, rfl⟩ := e
  by_cases hml : m = l.length
  ·subst hml
   refine .inl ⟨_, c - l.length, by unfold sliced; rw [Nat.sub_self], by simp, fun hn => ?_, by omega⟩
   split at hn <;> simp at hn
  ·have hck : ¬ c = m := by omega
   refine .inr ⟨by simp; omega, b, off + m * k, c - m, ?_, by simp; omega, by omega, hb, ?_⟩
   ·unfold sliced
    rw [if_neg hck]
    simp [add_lit]
   ·intro i x hi j v hj
    rw [List.getElem?_drop] at hi
    have := hrow (m + i) x hi j v hj
    rw [← this]
    congr 2
    rw [Nat.add_mul]
    omega
theorem row_upto (h : RowOf k enc w (.slice a l.length c) l) {m : Nat} (hm : m ≤ l.length) : RowOf k enc w (sliced a 0 m c k) (l.take m) := by
 have e0 : sliced a 0 m c k = .slice a m c := by
  unfold sliced
  split
  ·rename_i hc
   rw [hc]
   rfl
  ·cases a with
   | none => rfl
   | some x =>
    obtain ⟨b, o, z⟩ := x
    unfold Addr.add
    cases z <;> simp
 rw [e0]
 rcases h with ⟨ad, c', e, rfl, h1, h2⟩ | ⟨h0, b, off, c', e, h1, h2, hb, hrow⟩
 ·simp at hm
  subst hm
  simp only [List.length_nil, Value.slice.injEq, true_and] at e
  obtain ⟨rfl, rfl⟩ := e
  exact .inl ⟨a, c, rfl, rfl, h1, h2⟩
 ·simp only [Value.slice.injEq, true_and] at e
  obtain ⟨rfl, rfl⟩ := e
  by_cases hm0 : m = 0
  ·subst hm0
   exact .inl ⟨_, c, rfl, by simp, (fun h => by cases h), h2⟩
  ·refine .inr ⟨by simp; omega, b, off, c, by simp; omega, by simp; omega, h2, hb, ?_⟩
   intro i x hi j v hj
   rw [List.getElem?_take] at hi
   split at hi
   ·exact hrow i x hi j v hj
   ·cases hi
end
end Go.Proofs.YthhgpiolcnojfaaGreatDoor

/- herdref13.keep: an instance is kept. Printed by gn_ra1.py. -/
namespace Go.Proofs.YthhgpiolcnojfaaGreatDoor
open Go.RowKit Go.Shelf
attribute [-go_sem] loadVar storeVar Instr.buildSlice sliced run_sliceAt_slice
attribute [local go_sem] load_other store_other

theorem bs_kpN (w : World) : (Instr.buildSlice 26 0 #[]).run Tryz.prog w = .ok (.slice (some ⟨w.heap.size, 0, none⟩) 0 0) (w.alloc (.cells #[] 63)) := by kernel_rfl
theorem from_kp (a : Option Addr) (n c m : Nat) (hm : m ≤ n) (w : World) : (Instr.sliceAt 26 (.slice a n c) (some (.int .i64 (m : Int))) none none).run Tryz.prog w = .ok (sliced a m n c 8) w := by
 obtain ⟨k0, hk0, _, hk2, _⟩ := info_parts infoKp
 exact run_from _ 63 k0 (by kernel_rfl) (by kernel_rfl) hk0 hk2 a n c m hm w
theorem upto_kp (a : Option Addr) (n c m : Nat) (hm : m ≤ c) (w : World) : (Instr.sliceAt 26 (.slice a n c) none (some (.int .i64 (m : Int))) none).run Tryz.prog w = .ok (sliced a 0 m c 8) w := by
 obtain ⟨k0, hk0, _, hk2, _⟩ := info_parts infoKp
 exact run_upto _ 63 k0 (by kernel_rfl) (by kernel_rfl) hk0 hk2 a n c m hm w
theorem one_of {α : Type} {enc : α → List Value} (h : ∀ x, ∀ u ∈ enc x, u.oneCell' = true) (m : List α) : ∀ y ∈ m, ∀ u ∈ enc y, u.oneCell' = true := fun y _ u hu => h y u hu
section
variable {base : World} {b : Nat} {B : BrainV} {mv iv kv : Value} {W : World}
theorem BO.end (h : BO base b B mv iv kv W) : BrEnd base B (.agg (brT B.f B.g mv iv kv)) W := ⟨mv, iv, kv, rfl, h.rm, h.ri, h.rk⟩
/-- A brain in hand, boxed. -/
theorem BrEnd.box {v : Value} (h : BrEnd base B v W) (hb : Below base.heap.size base W) : ∃ mv iv kv, v = .agg (brT B.f B.g mv iv kv) ∧ BO base W.heap.size B mv iv kv (W.alloc (.cells (brT B.f B.g mv iv kv) 30)) := by
 obtain ⟨mv, iv, kv, rfl, h1, h2, h3⟩ := h
 have hal : Below W.heap.size W (W.alloc (.cells (brT B.f B.g mv iv kv) 30)) := (Below.refl _ _).alloc (Nat.le_refl _) _
 exact ⟨mv, iv, kv, rfl, heap_new _ _, hb.size, h1.kept (KeptT.below hal), h2.below hal, h3.below hal, hb.alloc hb.size _⟩
/-- A brain of the call's own is stored as the result. -/
theorem BO.fin (h : BO base b B mv iv kv W) {T : Nat} {c : Array Value} (hz : W.heap[T]? = some (.cells c 30)) (hc : c.size = 27) (hT : base.heap.size ≤ T) :
  ∃ X m i k, (storeVar 30 ⟨T, 0, none⟩ (.agg (brT B.f B.g mv iv kv))).run Tryz.prog W = .ok () X ∧ BB X T (brT B.f B.g m i k) ∧ BrEnd base B (.agg (brT B.f B.g m i k)) X ∧ Below base.heap.size base X ∧ ∀ V : World, Below V.heap.size V W → V.heap.size ≤ T → Below V.heap.size V X := by
 obtain ⟨X, hst, hvar, hbv, hbx, _, _⟩ := brEnd_store h.end hz hc h.bel hT
 have he := hbv.end hvar
 obtain ⟨m, i, k, e, bb, _⟩ := hvar
 refine ⟨X, m, i, k, hst, bb, by rw [← e]; exact he, hbx, fun V hV hTV => ?_⟩
 obtain ⟨X', hst', _, _, hbx', _, _⟩ := brEnd_store h.end hz hc hV hTV
 rw [hst] at hst'
 cases hst'
 exact hbx'
theorem BO.kv_shape (h : BO base b B mv iv kv W) : ∃ a c, kv = .slice a B.K.length c ∧ RowOf 8 encKp W (.slice a B.K.length c) B.K := by
 have hr := Owns.row h.rk encKp_len (by decide)
 obtain ⟨a, c, e, _⟩ := hr.open
 exact ⟨a, c, e, by rw [← e]; exact hr⟩
end
end Go.Proofs.YthhgpiolcnojfaaGreatDoor

/- herdref13.refresh: the records of a refresh. Printed by gn_ra3.py. -/
namespace Go.Proofs.YthhgpiolcnojfaaGreatDoor
open Go.RowKit Go.Shelf
attribute [-go_sem] loadVar storeVar
attribute [local go_sem] load_other store_other

def RefEnd (base : World) (W : World) (R : BrainV) (e : Ending) (W' : World) : Prop := ∃ u, e = .returned u ∧ BrEnd base R u W' ∧ Below W.heap.size W W'
theorem wp_named {C : Code} {P : Program} {Q : Exit → Act → World → Prop} {a : Act} {w : World} (h : ∀ U, U = w → C.wp P Q a U) : C.wp P Q a w := h w rfl
section
variable {base : World} {B : BrainV} {W : World}
/-- What the functions of a brain in hand begin with: its box, the result's box. -/
theorem ref_begin {v : Value} (h : BrEnd base B v W) (hbW : Below base.heap.size base W) : ∃ mv iv kv W1, v = .agg (brT B.f B.g mv iv kv) ∧ W1 = (W.alloc (.cells (brT B.f B.g mv iv kv) 30)).alloc (.cells #[.int .i64 0, .int .i64 0, .bool false, .int .i64 0, .int .i64 0, .int .i64 0, .int .i64 0, .int .i64 0, .int .i64 0, .int .i64 0, .int .i64 0, .int .i64 0, .int .i64 0, .int .i64 0, .int .i64 0, .int .i64 0, .bool false, .slice none 0 0, .slice none 0 0, .slice none 0 0, .int .u8 0, .int .i64 0, .int .i64 0, .int .i64 0, .bool false, .int .i64 0, .int .i64 0] 30) ∧
  BO base W.heap.size B mv iv kv W1 ∧ W1.heap[W.heap.size + 1]? = some (.cells #[.int .i64 0, .int .i64 0, .bool false, .int .i64 0, .int .i64 0, .int .i64 0, .int .i64 0, .int .i64 0, .int .i64 0, .int .i64 0, .int .i64 0, .int .i64 0, .int .i64 0, .int .i64 0, .int .i64 0, .int .i64 0, .bool false, .slice none 0 0, .slice none 0 0, .slice none 0 0, .int .u8 0, .int .i64 0, .int .i64 0, .int .i64 0, .bool false, .int .i64 0, .int .i64 0] 30) ∧ Below W.heap.size W W1 := by
 obtain ⟨mv, iv, kv, rfl, ho⟩ := h.box hbW
 have hb0 : Below (W.alloc (.cells (brT B.f B.g mv iv kv) 30)).heap.size (W.alloc (.cells (brT B.f B.g mv iv kv) 30)) ((W.alloc (.cells (brT B.f B.g mv iv kv) 30)).alloc (.cells #[.int .i64 0, .int .i64 0, .bool false, .int .i64 0, .int .i64 0, .int .i64 0, .int .i64 0, .int .i64 0, .int .i64 0, .int .i64 0, .int .i64 0, .int .i64 0, .int .i64 0, .int .i64 0, .int .i64 0, .int .i64 0, .bool false, .slice none 0 0, .slice none 0 0, .slice none 0 0, .int .u8 0, .int .i64 0, .int .i64 0, .int .i64 0, .bool false, .int .i64 0, .int .i64 0] 30)) := (Below.refl _ _).alloc (Nat.le_refl _) _
 refine ⟨mv, iv, kv, _, rfl, rfl, ho.below hb0, heap_new2 _ _ _, ?_⟩
 exact ((Below.refl W.heap.size W).alloc (Nat.le_refl _) _).alloc (by simp) _
/-- .. and end with. -/
theorem ref_end {mv iv kv : Value} {R : BrainV} {U : World} (h : BO base W.heap.size R mv iv kv U) (hz : U.heap[W.heap.size + 1]? = some (.cells #[.int .i64 0, .int .i64 0, .bool false, .int .i64 0, .int .i64 0, .int .i64 0, .int .i64 0, .int .i64 0, .int .i64 0, .int .i64 0, .int .i64 0, .int .i64 0, .int .i64 0, .int .i64 0, .int .i64 0, .int .i64 0, .bool false, .slice none 0 0, .slice none 0 0, .slice none 0 0, .int .u8 0, .int .i64 0, .int .i64 0, .int .i64 0, .bool false, .int .i64 0, .int .i64 0] 30)) (hb : Below W.heap.size W U) (hbW : Below base.heap.size base W) :
  (loadVar 30 ⟨W.heap.size, 0, none⟩).run Tryz.prog U = .ok (.agg (brT R.f R.g mv iv kv)) U ∧ ∃ X m i k, (storeVar 30 ⟨W.heap.size + 1, 0, none⟩ (.agg (brT R.f R.g mv iv kv))).run Tryz.prog U = .ok () X ∧ BB X (W.heap.size + 1) (brT R.f R.g m i k) ∧ RefEnd base W R (.returned (.agg (brT R.f R.g m i k))) X := by
 obtain ⟨X, m', i', k', hst, bb, hend, _, hbV⟩ := h.fin hz rfl (Nat.le_trans hbW.size (by omega))
 exact ⟨h.load, X, m', i', k', hst, bb, _, rfl, hend, hbV W hb (by omega)⟩
end
end Go.Proofs.YthhgpiolcnojfaaGreatDoor
