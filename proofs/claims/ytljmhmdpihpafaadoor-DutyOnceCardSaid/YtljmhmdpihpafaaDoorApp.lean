/- A part of the proofs about open calls: contracts of functions, or plain facts that they want. -/
import Derived.Test.YtljmhmdpihpafaaDoorWd
import Derived.Laws.AppendOwnNone
namespace Go.Proofs.YtljmhmdpihpafaaDoor
open Go.RowKit Go.Shelf

/-- A slice that the call itself has made, and that reads as a list. -/
def Owns {α : Type} (k : Nat) (e : TypeId) (enc : α → List Value) (w : World) (base : Nat) (v : Value) (l : List α) : Prop :=
  w.ownsRow base e k v l.length (l.flatMap enc)

theorem flat_len {α : Type} {k : Nat} {enc : α → List Value} (hk : ∀ x, (enc x).length = k) (l : List α) : (l.flatMap enc).length = l.length * k := by
  induction l with
  | nil => simp
  | cons x l ih => simp [ih, hk x, Nat.add_mul]; omega

theorem flat_get {α : Type} {k : Nat} {enc : α → List Value} (hk : ∀ x, (enc x).length = k) : ∀ (l : List α) (i : Nat) (x : α), l[i]? = some x → ∀ (j : Nat), j < k → (l.flatMap enc)[i * k + j]? = (enc x)[j]?
  | [], i, x, h, _, _ => by simp at h
  | y :: l, 0, x, h, j, hj => by
    simp at h; subst h
    rw [List.flatMap_cons, List.getElem?_append_left (by rw [Nat.zero_mul, hk]; omega)]; simp
  | y :: l, i + 1, x, h, j, hj => by
    simp at h
    rw [List.flatMap_cons, List.getElem?_append_right (by rw [hk, Nat.add_mul]; omega), hk]
    rw [show (i + 1) * k + j - k = i * k + j by rw [Nat.add_mul]; omega]
    exact flat_get hk l i x h j hj

section
variable {α : Type} {k : Nat} {e : TypeId} {enc : α → List Value} {w w' : World} {base : Nat} {l : List α} {v : Value}

theorem Owns.row (h : Owns k e enc w base v l) (hk : ∀ x, (enc x).length = k) (_hk0 : 0 < k) : RowOf k enc w v l := by
  obtain ⟨hl, h | ⟨g, cap, cur, rfl, hb, hg, hn, hm, hs, ht⟩⟩ := h
  · obtain ⟨rfl, hn⟩ := h
    have : l = [] := List.eq_nil_of_length_eq_zero hn
    subst this
    exact RowOf.nil
  · by_cases h0 : 0 < l.length
    · refine .inr ⟨h0, g, 0, cap, rfl, hn, hm, blk_lt hg, ?_⟩
      intro i x hi j u hj
      have hjk : j < k := by rw [← hk x]; exact (List.getElem?_eq_some_iff.1 hj).1
      have hf := flat_get hk l i x hi j hjk
      rw [hj, ← ht] at hf
      rw [Nat.zero_add, blk_cell hg]
      rw [List.getElem?_take] at hf
      split at hf
      · simpa using hf
      · cases hf
    · have : l = [] := List.eq_nil_of_length_eq_zero (by omega)
      subst this
      exact .inl ⟨_, cap, rfl, rfl, fun h => by (cases h), hm⟩

theorem Owns.below (h : Owns k e enc w base v l) (hB : Below w.heap.size w w') : Owns k e enc w' base v l :=
  World.ownsRow.kept h (grown_of_below hB none) (by cases hv : v.ownBlock <;> simp)
theorem Owns.nil (w : World) (base : Nat) : Owns k e enc w base (.slice none 0 0) ([] : List α) := World.ownsRow_nil w base e k
theorem Owns.mono {base' : Nat} (h : Owns k e enc w base v l) (hb : base' ≤ base) : Owns k e enc w base' v l := by
  obtain ⟨h1, h2 | ⟨g, cap, cur, h2, h3, h4⟩⟩ := h
  · exact ⟨h1, .inl h2⟩
  · exact ⟨h1, .inr ⟨g, cap, cur, h2, Nat.le_trans hb h3, h4⟩⟩
theorem Owns.other (h : Owns k e enc w base v l) {p : Addr} (hp : p.block < base) (u : Value) : Owns k e enc (w.setCell p u) base v l :=
  ownsRow_setCell_below h hp u
theorem Owns.block (h : Owns k e enc w base v l) : ∀ g, v.ownBlock = some g → base ≤ g ∧ g < w.heap.size := World.ownsRow.lt h
theorem Owns.shape (h : Owns k e enc w base v l) : ∃ a n c, v = .slice a n c := by
  obtain ⟨_, ⟨rfl, _⟩ | ⟨g, cap, cur, rfl, _⟩⟩ := h
  · exact ⟨_, _, _, rfl⟩
  · exact ⟨_, _, _, rfl⟩
/-- What a slice of the call's own looks like. -/
theorem Owns.form (h : Owns k e enc w base v l) : (v = .slice none 0 0 ∧ l = []) ∨ ∃ g c, v = .slice (some ⟨g, 0, none⟩) l.length c ∧ base ≤ g ∧ g < w.heap.size := by
  obtain ⟨_, ⟨rfl, hn⟩ | ⟨g, cap, cur, rfl, h3, h4, _⟩⟩ := h
  · exact .inl ⟨rfl, List.eq_nil_of_length_eq_zero hn⟩
  · exact .inr ⟨g, cap, rfl, h3, blk_lt h4⟩
end

section
variable {α : Type} {k : Nat} {enc : α → List Value} {w : World} {P : Program}

/-- append(s, x..) where s is of the call's own, and x reads as a list. -/
theorem append_rows {ops : Array Oper} {rest : List Oper} {o : Oper} {a : Act} {Q : Exit → Act → World → Prop} (hgd : o.guard = none) (s x : Operand) (t : TypeId)
    (ho : o.op = .call { callee := .builtin .append, args := #[s, x], argTypes := #[t, t] })
    (base : Nat) (e : TypeId) (i : TypeInfo) (z : Value) (bytes : Nat) (ht : P.underlying t = some (.slice e)) (hi : P.info? e = some i) (hz : i.zero = some z)
    (hsize : i.size = k) (hby : i.bytes = bytes) (hzs : z.cells.size = k) (hsz : 0 < k) (hk : ∀ x, (enc x).length = k) (hone : ∀ x, ∀ u ∈ enc x, u.oneCell' = true)
    (v : Value) (l : List α) (hs : a.eval s = v) (hown : Owns k e enc w base v l)
    (sv : Value) (m : List α) (hx : a.eval x = sv) (hr : RowOf k enc w sv m)
    (h63 : l.length + m.length ≤ maxLen) (hbytes : (l.length + m.length) * bytes ≤ 140737488355328) (hbase : base ≤ w.heap.size)
    (h : ∀ v' w', Owns k e enc w' base v' (l ++ m) → w.grownBy w' v.ownBlock → wpList P ops Q rest (a.put o.dst v') w') : wpList P ops Q (o :: rest) a w := by
  have fin : ∀ v' w', w'.ownsRow base e k v' (l.length + m.length) (l.flatMap enc ++ m.flatMap enc) → w.grownBy w' v.ownBlock → wpList P ops Q rest (a.put o.dst v') w' := by
    intro v' w' h1 h2
    refine h v' w' ?_ h2
    unfold Owns
    rw [List.length_append, List.flatMap_append]
    exact h1
  rcases hr with ⟨ad, c, rfl, rfl, hac, hcm⟩ | ⟨h0, b, off, c, rfl, h1, h2, hb, hrow⟩
  · cases ad with
    | none =>
      obtain rfl := hac rfl
      exact wpList_append_own_none hgd s x t ho base e i k ht hi v _ _ hs hown hx (h v w (by simpa using hown) ⟨rfl, rfl, rfl, Nat.le_refl _, fun _ _ _ => rfl⟩)
    | some ad =>
      exact wpList_append_own w hgd s x t ho base e i z k bytes ht hi hz hsize hby hzs hsz v l.length _ hs hown ad 0 c [] hx (by simp) (by simp) (by simp) h63 hbytes hbase fun v' w' h1 h2 _ => fin v' w' h1 h2
  · refine wpList_append_own w hgd s x t ho base e i z k bytes ht hi hz hsize hby hzs hsz v l.length _ hs hown ⟨b, off, none⟩ m.length c (m.flatMap enc) hx (flat_len hk m) ?_ ?_ h63 hbytes hbase fun v' w' h1 h2 _ => fin v' w' h1 h2
    · intro j u hj
      have hlt : j < m.length * k := by rw [← flat_len hk m]; exact (List.getElem?_eq_some_iff.1 hj).1
      have hq : j / k < m.length := Nat.div_lt_of_lt_mul (by rw [Nat.mul_comm]; exact hlt)
      obtain ⟨y, hy⟩ := get_lt hq
      have hf := flat_get hk m (j / k) y hy (j % k) (Nat.mod_lt _ hsz)
      have hjj : j / k * k + j % k = j := by rw [Nat.mul_comm]; exact Nat.div_add_mod j k
      rw [hjj, hj] at hf
      have := hrow (j / k) y hy (j % k) u hf.symm
      rw [show ((⟨b, off, none⟩ : Addr).add j) = ⟨b, off + j, none⟩ by unfold Addr.add; split <;> simp_all]
      rw [← this]
      congr 2
      omega
    · intro u hu
      obtain ⟨y, _, hy⟩ := List.mem_flatMap.1 hu
      exact hone y u hy
end
end Go.Proofs.YtljmhmdpihpafaaDoor
