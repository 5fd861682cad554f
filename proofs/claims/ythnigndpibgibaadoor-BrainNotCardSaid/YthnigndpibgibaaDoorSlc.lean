/- Parts of a slice: how they are run, what they read as. -/
import Derived.Test.YthnigndpibgibaaDoorVd
namespace Go.Proofs.YthnigndpibgibaaDoor
open Go.RowKit Go.Shelf
section
variable {P : Program} {α : Type} {k : Nat} {enc : α → List Value} {w : World} {l : List α} {a : Option Addr} {c : Nat}
theorem run_from (t e : TypeId) (i : TypeInfo) (ht : P.underlying t = some (.slice (P.elem t))) (he : P.elem t = e) (hi : P.info? e = some i) (hs : i.size = k) (a : Option Addr) (n c m : Nat) (hm : m ≤ n) (w : World) :
    (Instr.sliceAt t (.slice a n c) (some (.int .i64 (m : Int))) none none).run P w = .ok (sliced a m n c k) w := by
  rw [run_sliceAt_slice w t _ _ _ _ ht, run_slice_l w t a n c ht .i64 m (by omega) (by omega), he]
  simp [sizeOf, typeInfo, hi, hs, Result.andThen]
theorem run_upto (t e : TypeId) (i : TypeInfo) (ht : P.underlying t = some (.slice (P.elem t))) (he : P.elem t = e) (hi : P.info? e = some i) (hs : i.size = k) (a : Option Addr) (n c m : Nat) (hm : m ≤ c) (w : World) :
    (Instr.sliceAt t (.slice a n c) none (some (.int .i64 (m : Int))) none).run P w = .ok (sliced a 0 m c k) w := by
  rw [run_sliceAt_slice w t _ _ _ _ ht, run_slice_h w t a n c ht .i64 m (by omega) (by omega), he]
  simp [sizeOf, typeInfo, hi, hs, Result.andThen]
theorem row_from (h : RowOf k enc w (.slice a l.length c) l) {m : Nat} (hm : m ≤ l.length) : RowOf k enc w (sliced a m l.length c k) (l.drop m) := by
  rcases h with ⟨ad, c', e, rfl, h1, h2⟩ | ⟨h0, b, off, c', e, h1, h2, hb, hrow⟩
  · simp at hm
    subst hm
    simp only [List.length_nil, Value.slice.injEq, true_and] at e
    obtain ⟨rfl, rfl⟩ := e
    refine .inl ⟨_, c - 0, rfl, rfl, fun hn => ?_, by omega⟩
    split at hn
    · have := h1 hn; omega
    · cases a with
      | none => have := h1 rfl; omega
      | some x => simp at hn
  · simp only [Value.slice.injEq, true_and] at e
    obtain ⟨rfl, rfl⟩ := e
    by_cases hml : m = l.length
    · subst hml
      refine .inl ⟨_, c - l.length, by unfold sliced; rw [Nat.sub_self], by simp, fun hn => ?_, by omega⟩
      split at hn <;> simp at hn
    · have hck : ¬ c = m := by omega
      refine .inr ⟨by simp; omega, b, off + m * k, c - m, ?_, by simp; omega, by omega, hb, ?_⟩
      · unfold sliced
        rw [if_neg hck]
        simp [add_lit]
      · intro i x hi j v hj
        rw [List.getElem?_drop] at hi
        have := hrow (m + i) x hi j v hj
        rw [← this]
        congr 2
        rw [Nat.add_mul]
        omega
theorem row_upto (h : RowOf k enc w (.slice a l.length c) l) {m : Nat} (hm : m ≤ l.length) : RowOf k enc w (sliced a 0 m c k) (l.take m) := by
  have e0 : sliced a 0 m c k = .slice a m c := by
    unfold sliced
    split
    · rename_i hc
      rw [hc]
      rfl
    · cases a with
      | none => rfl
      | some x =>
        obtain ⟨b, o, z⟩ := x
        unfold Addr.add
        cases z <;> simp
  rw [e0]
  rcases h with ⟨ad, c', e, rfl, h1, h2⟩ | ⟨h0, b, off, c', e, h1, h2, hb, hrow⟩
  · simp at hm
    subst hm
    simp only [List.length_nil, Value.slice.injEq, true_and] at e
    obtain ⟨rfl, rfl⟩ := e
    exact .inl ⟨a, c, rfl, rfl, h1, h2⟩
  · simp only [Value.slice.injEq, true_and] at e
    obtain ⟨rfl, rfl⟩ := e
    by_cases hm0 : m = 0
    · subst hm0
      exact .inl ⟨_, c, rfl, by simp, (fun h => by cases h), h2⟩
    · refine .inr ⟨by simp; omega, b, off, c, by simp; omega, by simp; omega, h2, hb, ?_⟩
      intro i x hi j v hj
      rw [List.getElem?_take] at hi
      split at hi
      · exact hrow i x hi j v hj
      · cases hi
end
end Go.Proofs.YthnigndpibgibaaDoor
