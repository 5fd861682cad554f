/- Arguments that are slices of structs, opened: they read as lists. -/
import Derived.Test.YthnlppbfmmiioaaFrm
import Derived.Test.YthnlppbfmmiioaaNv
import Derived.Deep.Slices
import Derived.Deep.Fields
import Derived.Lib.SmallJoins
namespace Go.Proofs.Ythnlppbfmmiioaa
open Go.ChangeShapes Go.WideShapes Go.ChangeAt Go.RowKit Go.Deep Go.Joins
theorem wf_in64 {n : Int} (h : (Lit.int .i64 n).wf = true) : in64 n := bounds_i64 h
theorem wf_in8 {n : Int} (h : (Lit.int .u8 n).wf = true) : in8 n := bounds_u8 h

theorem list_of {α : Type} {Q : Nat → α → Prop} : ∀ n, (∀ i, i < n → ∃ x, Q i x) → ∃ l : List α, l.length = n ∧ ∀ i x, l[i]? = some x → Q i x
  | 0, _ => ⟨[], rfl, fun i x h => by simp at h⟩
  | n + 1, h => by
    obtain ⟨l, hl, hq⟩ := list_of n (fun i hi => h i (by omega))
    obtain ⟨x, hx⟩ := h n (by omega)
    refine ⟨l ++ [x], by simp [hl], fun i y hy => ?_⟩
    by_cases hi : i < l.length
    · rw [List.getElem?_append_left hi] at hy; exact hq i y hy
    · rw [List.getElem?_append_right (by omega)] at hy
      have : i = n := by
        have := (List.getElem?_eq_some_iff.1 hy).1
        simp at this; omega
      subst this
      rw [hl, Nat.sub_self] at hy
      simp at hy; subst hy; exact hx

section
variable {H : Type} {enc : TypeId × Value → H} {w : World}

theorem open_rows {α : Type} {k : Nat} {en : α → List Value} {wf : α → Prop} {t e : TypeId} (ht : Try.prog.underlying t = some (.slice e)) (hC : Try.prog.cellsOf e = k) (hk0 : 0 < k) (hen : ∀ x, (en x).length = k)
    (hrd : ∀ n cs y, DataW.trod enc Try.prog w 0 (fun _ => true) true n e cs = some y → ∃ x, wf x ∧ en x = cs)
    {fuel : Nat} {v : Value} {x : DataW H × List MemPlace} (h : DataW.trod enc Try.prog w 0 (fun _ => true) true fuel t [v] = some x) : ∃ l : List α, RowOf k en w v l ∧ ∀ y ∈ l, wf y := by
  rcases open_slice ht h with ⟨h0, _⟩ | ⟨a, len, cap, m, n, D, Pl, hcs, hb, hl, hm, hmm, hx, hi⟩
  · simp at h0; subst h0; exact ⟨[], RowOf.nil, by simp⟩
  · simp at hcs
    subst hcs
    simp only [if_true] at hmm
    subst hmm
    obtain ⟨l, hll, hq⟩ := list_of (Q := fun i (y : α) => wf y ∧ ∀ j u, (en y)[j]? = some u → w.cell? ((a.add (i * k)).add j) = some u) len (fun i hil => by
      obtain ⟨cs', hc, htr⟩ := hi i (by omega)
      rw [hC] at hc
      obtain ⟨_, hcl, hat⟩ := World.cells?_some hc
      obtain ⟨y, hwf, rfl⟩ := hrd _ _ _ htr
      refine ⟨y, hwf, fun j u hj => ?_⟩
      have hjk : j < k := by rw [← hen y]; exact (List.getElem?_eq_some_iff.1 hj).1
      rw [hat j hjk, hj])
    refine ⟨l, ?_, fun y hy => ?_⟩
    · by_cases h0 : 0 < len
      · have hsp : a.spot = none := by
          obtain ⟨y, hy⟩ := get_lt (show 0 < l.length by omega)
          have hy0 : ∃ u, (en y)[0]? = some u := get_lt (by rw [hen]; exact hk0)
          obtain ⟨u, hu⟩ := hy0
          have := (hq 0 y hy).2 0 u hu
          rw [show ((a.add (0 * k)).add 0) = a by simp [Addr.add]] at this
          unfold World.cell? at this
          split at this
          · split at this
            · cases this
            · rename_i hs; simpa using hs
          · cases this
        obtain ⟨ab, ao, asp⟩ := a
        simp only at hsp
        subst hsp
        have hat : RowAt k en w ab ao l := by
          intro i y hy j u hj
          have := (hq i y hy).2 j u hj
          rw [Go.Deep.add_add] at this
          rw [← this]
          unfold Addr.add
          split
          · rename_i hz; simp [Nat.add_assoc, hz]
          · simp [Nat.add_assoc]
        refine .inr ⟨by omega, ab, ao, m, by rw [hll], by omega, hm, ?_, hat⟩
        obtain ⟨y, hy⟩ := get_lt (show 0 < l.length by omega)
        obtain ⟨u, hu⟩ := get_lt (show 0 < (en y).length by rw [hen]; exact hk0)
        exact lt_of_cell (hat 0 y hy 0 u hu)
      · have : l = [] := List.eq_nil_of_length_eq_zero (by omega)
        subst this
        have : len = 0 := by omega
        subst this
        exact .inl ⟨_, m, rfl, rfl, (fun h => by cases h), hm⟩
    · obtain ⟨i, hi'⟩ := List.getElem?_of_mem hy
      exact (hq i y hi').1

theorem field_read {T i ty off n : Nat} {cs : List Value} {ys : List (DataW H × List MemPlace)} (hm : ((Try.prog.fieldsOf T)[i]?).map (fun f => (f.type, f.offset)) = some (ty, off)) (hc : Try.prog.cellsOf ty = 1) (hyl : ys.length = (Try.prog.fieldsOf T).size)
    (hf : ∀ (i : Nat) (f : Field), (Try.prog.fieldsOf T)[i]? = some f → DataW.trod enc Try.prog w 0 (fun _ => true) true n f.type (List.take (Try.prog.cellsOf f.type) (List.drop f.offset cs)) = ys[i]?) :
    ∃ y, DataW.trod enc Try.prog w 0 (fun _ => true) true n ty (List.take 1 (List.drop off cs)) = some y := by
  cases hfi : (Try.prog.fieldsOf T)[i]? with
  | none => rw [hfi] at hm; cases hm
  | some f =>
    rw [hfi] at hm
    simp only [Option.map_some, Option.some.injEq, Prod.mk.injEq] at hm
    have h := hf i f hfi
    rw [hm.1, hm.2, hc] at h
    have hlt : i < ys.length := by rw [hyl]; exact (Array.getElem?_eq_some_iff.1 hfi).1
    obtain ⟨y, hy⟩ := get_lt hlt
    exact ⟨y, h.trans hy⟩

theorem int_read {n ty : Nat} {q : IntKind} {v : Value} (ht : Try.prog.underlying ty = some (.int q)) (h : ∃ y, DataW.trod enc Try.prog w 0 (fun _ => true) true n ty [v] = some y) : ∃ a, v = .int q a ∧ (Lit.int q a).wf = true := by
  obtain ⟨y, h⟩ := h
  obtain ⟨a, h1, _, h3⟩ := DataW.trod_int ht h
  simp at h1
  exact ⟨a, h1, h3⟩

end
end Go.Proofs.Ythnlppbfmmiioaa
