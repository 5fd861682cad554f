/- Slices of the call's own, written in place: a part overwritten, cut shorter, cleared behind. -/
import Derived.Test.YtljmhmdpihpafaaDoorApp1
import Derived.Laws.IdiomCopy
namespace Go.Proofs.YtljmhmdpihpafaaDoor
open Go.RowKit Go.Shelf

theorem setCells_other (b : Nat) : ∀ (vs : List Value) (o : Nat) (w : World) (i : Nat), i ≠ b → (w.setCells b o vs).heap[i]? = w.heap[i]?
  | [], _, _, _, _ => rfl
  | v :: r, o, w, i, h => by
    rw [World.setCells, setCells_other b r (o + 1) _ i h]
    exact Below.heap_setCell w ⟨b, o, none⟩ v i h
theorem setCells_same (b : Nat) : ∀ (vs : List Value) (o : Nat) (w : World), (w.setCells b o vs).os = w.os ∧ (w.setCells b o vs).tape = w.tape ∧ (w.setCells b o vs).output = w.output ∧ (w.setCells b o vs).heap.size = w.heap.size
  | [], _, _ => ⟨rfl, rfl, rfl, rfl⟩
  | v :: r, o, w => by
    obtain ⟨h1, h2, h3, h4⟩ := setCells_same b r (o + 1) (w.setCell ⟨b, o, none⟩ v)
    rw [World.setCells]
    exact ⟨h1, h2, h3, by rw [h4]; simp [World.setCell]⟩
theorem setCells_grown (b o : Nat) (vs : List Value) (w : World) : w.grownBy (w.setCells b o vs) (some b) := by
  obtain ⟨h1, h2, h3, h4⟩ := setCells_same b vs o w
  exact ⟨h1, h2, h3, by rw [h4]; exact Nat.le_refl _, fun i _ hi => setCells_other b vs o w i (fun e => hi (by rw [e]))⟩
theorem setCells_blk (b : Nat) {t : TypeId} : ∀ (vs : List Value) (o : Nat) (w : World) (cur : Array Value), w.heap[b]? = some (.cells cur t) →
    ∃ cur', (w.setCells b o vs).heap[b]? = some (.cells cur' t) ∧ cur'.size = cur.size ∧ (∀ j, j < o → cur'[j]? = cur[j]?) ∧ (∀ j, o + vs.length ≤ j → cur'[j]? = cur[j]?) ∧ (o + vs.length ≤ cur.size → ∀ j, j < vs.length → cur'[o + j]? = vs[j]?)
  | [], o, w, cur, h => ⟨cur, h, rfl, fun _ _ => rfl, fun _ _ => rfl, fun _ j hj => by simp at hj⟩
  | v :: r, o, w, cur, h => by
    obtain ⟨cur', h1, h2, h3, h4, h5⟩ := setCells_blk b r (o + 1) (w.setCell ⟨b, o, none⟩ v) (cur.setIfInBounds o v) (blk_set h o v)
    refine ⟨cur', h1, by rw [h2]; simp, fun j hj => ?_, fun j hj => ?_, fun hsz j hj => ?_⟩
    · rw [h3 j (by omega), Array.getElem?_setIfInBounds, if_neg (by omega)]
    · simp at hj
      rw [h4 j (by omega), Array.getElem?_setIfInBounds, if_neg (by omega)]
    · simp at hsz
      cases j with
      | zero =>
        rw [Nat.add_zero, h3 o (by omega), Array.getElem?_setIfInBounds, if_pos rfl, if_pos (by omega)]
        simp
      | succ j =>
        have := h5 (by simp; omega) j (by simpa using hj)
        rw [show o + (j + 1) = o + 1 + j by omega, this]
        simp

theorem flat_split {α : Type} {enc : α → List Value} (l : List α) (i : Nat) : l.flatMap enc = (l.take i).flatMap enc ++ (l.drop i).flatMap enc := by
  rw [← List.flatMap_append, List.take_append_drop]

section
variable {α : Type} {k : Nat} {e : TypeId} {enc : α → List Value} {w w' : World} {base g n c : Nat} {l : List α}

theorem Owns.blk (h : Owns k e enc w base (.slice (some ⟨g, 0, none⟩) n c) l) : ∃ cur, w.heap[g]? = some (.cells cur e) ∧ n = l.length ∧ n ≤ c ∧ c ≤ maxLen ∧ base ≤ g ∧ cur.size = c * k ∧ cur.toList.take (n * k) = l.flatMap enc := by
  obtain ⟨_, ⟨h1, _⟩ | ⟨g', cap, cur, h1, h2, h3, h4, h5, h6, h7⟩⟩ := h
  · cases h1
  · cases h1
    exact ⟨cur, h3, rfl, h4, h5, h2, h6, h7⟩
theorem Owns.mk (hk : ∀ x, (enc x).length = k) {cur : Array Value} (h1 : w.heap[g]? = some (.cells cur e)) (h2 : n = l.length) (h3 : n ≤ c) (h4 : c ≤ maxLen) (h5 : base ≤ g) (h6 : cur.size = c * k) (h7 : cur.toList.take (n * k) = l.flatMap enc) : Owns k e enc w base (.slice (some ⟨g, 0, none⟩) n c) l := by
  subst h2
  exact ⟨flat_len hk l, .inr ⟨g, c, cur, rfl, h5, h1, h3, h4, h6, h7⟩⟩

/-- A part of it is overwritten. -/
theorem Owns.write (hk : ∀ x, (enc x).length = k) (h : Owns k e enc w base (.slice (some ⟨g, 0, none⟩) n c) l) (i : Nat) (m : List α) (hi : i + m.length ≤ l.length) :
    Owns k e enc (w.setCells g (i * k) (m.flatMap enc)) base (.slice (some ⟨g, 0, none⟩) n c) (l.take i ++ m ++ l.drop (i + m.length)) := by
  obtain ⟨cur, h1, h2, h3, h4, h5, h6, h7⟩ := h.blk
  obtain ⟨cur', q1, q2, q3, q4, q5⟩ := setCells_blk g (m.flatMap enc) (i * k) w cur h1
  have hml := flat_len hk m
  have hnk : n * k ≤ c * k := Nat.mul_le_mul_right k h3
  have hik : i * k + m.length * k ≤ n * k := by rw [← Nat.add_mul]; exact Nat.mul_le_mul_right k (by omega)
  refine Owns.mk hk q1 ?_ h3 h4 h5 (by rw [q2, h6]) ?_
  · simp; omega
  · have hA : ((l.take i).flatMap enc).length = i * k := by rw [flat_len hk, List.length_take, Nat.min_eq_left (by omega)]
    have hcur : ∀ q, q < n * k → cur[q]? = (l.flatMap enc)[q]? := by
      intro q hq
      rw [← h7, List.getElem?_take, if_pos hq]; simp
    apply List.ext_getElem?
    intro q
    rw [List.flatMap_append, List.flatMap_append]
    by_cases hq : q < n * k
    · rw [List.getElem?_take, if_pos hq]
      have e1 : cur'.toList[q]? = cur'[q]? := by simp
      rw [e1]
      by_cases c1 : q < i * k
      · rw [q3 q c1, hcur q hq, List.append_assoc, List.getElem?_append_left (by rw [hA]; exact c1), flat_split l i, List.getElem?_append_left (by rw [hA]; exact c1)]
      · by_cases c2 : q < i * k + m.length * k
        · have := q5 (by rw [hml]; omega) (q - i * k) (by rw [hml]; omega)
          rw [show i * k + (q - i * k) = q by omega] at this
          rw [this, List.append_assoc, List.getElem?_append_right (by rw [hA]; omega), hA, List.getElem?_append_left (by rw [hml]; omega)]
        · rw [q4 q (by rw [hml]; omega), hcur q hq, List.append_assoc, List.getElem?_append_right (by rw [hA]; omega), hA, List.getElem?_append_right (by rw [hml]; omega), hml]
          rw [flat_split l (i + m.length), List.getElem?_append_right (by rw [flat_len hk, List.length_take, Nat.min_eq_left (by omega), Nat.add_mul]; omega)]
          rw [flat_len hk, List.length_take, Nat.min_eq_left (by omega), Nat.add_mul]
          congr 1
          omega
    · rw [List.getElem?_eq_none (by simp; omega), List.getElem?_eq_none]
      simp only [List.length_append, hA, hml, flat_len hk, List.length_drop]
      rw [Nat.sub_mul, Nat.add_mul, ← h2]
      omega
/-- It is cut shorter. -/
theorem Owns.cut (hk : ∀ x, (enc x).length = k) (h : Owns k e enc w base (.slice (some ⟨g, 0, none⟩) n c) l) (n' : Nat) (hn : n' ≤ n) : Owns k e enc w base (.slice (some ⟨g, 0, none⟩) n' c) (l.take n') := by
  obtain ⟨cur, h1, h2, h3, h4, h5, h6, h7⟩ := h.blk
  refine Owns.mk hk h1 ?_ (by omega) h4 h5 h6 ?_
  · simp; omega
  · have : cur.toList.take (n' * k) = (cur.toList.take (n * k)).take (n' * k) := by rw [List.take_take, Nat.min_eq_left (Nat.mul_le_mul_right k hn)]
    rw [this, h7, flat_split l n', List.take_append_of_le_length (by rw [flat_len hk, List.length_take, Nat.min_eq_left (by omega)]; exact Nat.le_refl _), List.take_of_length_le (by rw [flat_len hk, List.length_take, Nat.min_eq_left (by omega)]; exact Nat.le_refl _)]
/-- What lies behind it is written. -/
theorem Owns.beyond (hk : ∀ x, (enc x).length = k) (h : Owns k e enc w base (.slice (some ⟨g, 0, none⟩) n c) l) (o : Nat) (vs : List Value) (ho : n * k ≤ o) : Owns k e enc (w.setCells g o vs) base (.slice (some ⟨g, 0, none⟩) n c) l := by
  obtain ⟨cur, h1, h2, h3, h4, h5, h6, h7⟩ := h.blk
  obtain ⟨cur', q1, q2, q3, q4, q5⟩ := setCells_blk g vs o w cur h1
  refine Owns.mk hk q1 h2 h3 h4 h5 (by rw [q2, h6]) ?_
  rw [← h7]
  apply List.ext_getElem?
  intro q
  rw [List.getElem?_take, List.getElem?_take]
  split
  · have := q3 q (by omega)
    simpa using this
  · rfl
/-- Its cells: they are there, and may be written. -/
theorem Owns.cells (h : Owns k e enc w base (.slice (some ⟨g, 0, none⟩) n c) l) : (∀ j, j < c * k → (w.cell? ⟨g, j, none⟩).isSome = true) ∧ (∀ j, w.frozen? ⟨g, j, none⟩ = false) ∧ n = l.length ∧ n ≤ c ∧ c ≤ maxLen := by
  obtain ⟨cur, h1, h2, h3, h4, h5, h6, h7⟩ := h.blk
  refine ⟨fun j hj => ?_, blk_free h1, h2, h3, h4⟩
  rw [blk_cell h1, Array.getElem?_eq_getElem (by omega)]; rfl
end

variable {P : Program}
/-- 'clear(s)' on n elements of k cells each: whatever they hold behind it, nothing else has turned. -/
theorem run_clear_rows (w : World) (t e ty : TypeId) (z : Value) (k : Nat) (ht : P.underlying t = some (.slice e)) (hv : ∀ w, (zeroValue e).run P w = .ok z w) (hz : z.cells.size = k) (h1 : ∀ u ∈ z.cells.toList, u.oneCell' = true) (b o n c : Nat)
    (hc : ∀ j, j < n * k → (w.cell? ⟨b, o + j, none⟩).isSome = true) (hf : ∀ j, j < n * k → w.frozen? ⟨b, o + j, none⟩ = false) :
    ∃ vs : List Value, (Builtin.clear_ #[t] ty #[.slice (some ⟨b, o, none⟩) n c]).run P w = .ok (.tuple #[]) (w.setCells b o vs) ∧ vs.length ≤ n * k := by
  cases n with
  | zero => exact ⟨[], by simp [Builtin.clear_, run_underlying ht, World.setCells], by simp⟩
  | succ m =>
    have hl : (Builtin.zeroCells z.cells (m + 1)).toList.length = (m + 1) * k := by simp [Builtin.zeroCells, hz]
    refine ⟨(Builtin.zeroCells z.cells (m + 1)).toList, ?_, by rw [hl]; exact Nat.le_refl _⟩
    have hst := run_storeCells_cells (P := P) b o (Builtin.zeroCells z.cells (m + 1)).toList 0 w (by rw [hl]; simpa using hc) (by rw [hl]; simpa using hf) (by
      intro v hv'
      unfold Builtin.zeroCells at hv'
      rw [Array.mem_toList_iff] at hv'
      obtain ⟨i, hi, rfl⟩ := Array.mem_map.1 hv'
      have hi' : i < (m + 1) * z.cells.size := by simpa using hi
      have hz0 : 0 < z.cells.size := by
        rcases Nat.eq_zero_or_pos z.cells.size with h | h
        · rw [h] at hi'; omega
        · exact h
      have hlt := Nat.mod_lt i hz0
      rw [getElem!_pos z.cells (i % z.cells.size) hlt]
      exact h1 _ (Array.mem_toList_iff.2 (Array.getElem_mem hlt)))
    simp only [Nat.add_zero] at hst
    simp [Builtin.clear_, run_underlying ht, hv, hst]
end Go.Proofs.YtljmhmdpihpafaaDoor
