
/- A part of the proofs about open calls: contracts of functions, or plain facts that they want. -/
import Derived.Test.YthhgpiolcnojfaaDoorWd
namespace Go.Proofs.YthhgpiolcnojfaaDoor
open Go.RowKit Go.Shelf

theorem arr2_eqIn (n : Nat) (a b c d : Int) (w : World) : (Op.equalIn (n + 2) 126 (.agg #[.int .i64 a, .int .i64 b]) (.agg #[.int .i64 c, .int .i64 d])).run Tryd.prog w = .ok (a == c && b == d) w := by
  have hu : Tryd.prog.underlying 126 = some (.array 2 3) := by kernel_rfl
  have hi : Tryd.prog.underlying 3 = some (.int .i64) := by kernel_rfl
  have hs : ∀ w, (sizeOf 3).run Tryd.prog w = .ok 1 w := fun w => by kernel_rfl
  have hp0 : ∀ w, (part 3 #[.int .i64 a, .int .i64 b] 0).run Tryd.prog w = .ok (.int .i64 a) w := fun w => by kernel_rfl
  have hp1 : ∀ w, (part 3 #[.int .i64 a, .int .i64 b] 1).run Tryd.prog w = .ok (.int .i64 b) w := fun w => by kernel_rfl
  have hq0 : ∀ w, (part 3 #[.int .i64 c, .int .i64 d] 0).run Tryd.prog w = .ok (.int .i64 c) w := fun w => by kernel_rfl
  have hq1 : ∀ w, (part 3 #[.int .i64 c, .int .i64 d] 1).run Tryd.prog w = .ok (.int .i64 d) w := fun w => by kernel_rfl
  rw [Op.equalIn]
  simp only [Sem.run_bind, run_underlying hu, Result.andThen_ok, hs, Std.Legacy.Range.forIn_eq_forIn_range', Std.Legacy.Range.size]
  simp [List.range', hp0, hp1, hq0, hq1, run_equalIn_int w n 3 .i64 .i64 _ _ hi]
  by_cases h1 : a = c <;> by_cases h2 : b = d <;> simp [h1, h2]

theorem arr2_eq (a b c d : Int) (w : World) : (Op.equal 126 (.agg #[.int .i64 a, .int .i64 b]) (.agg #[.int .i64 c, .int .i64 d])).run Tryd.prog w = .ok (a == c && b == d) w :=
  arr2_eqIn 9998 a b c d w

def encK (k : Int × Int) : Value := .agg #[.int .i64 k.1, .int .i64 k.2]

/-- A block is a map from pairs to bools that holds just these keys, each with true. -/
def SeenMap (w : World) (b : Nat) (ks : List (Int × Int)) : Prop :=
  ∃ es clock, w.heap[b]? = some (.map es clock) ∧ es.toList.map (·.key) = ks.map encK ∧ ∀ e ∈ es.toList, e.val = .bool true

theorem SeenMap.alloc {w : World} {b : Nat} {ks : List (Int × Int)} (h : SeenMap w b ks) (o : Obj) : SeenMap (w.alloc o) b ks := by
  obtain ⟨es, cl, hb, h⟩ := h
  exact ⟨es, cl, (Below.heap_alloc w o b (Array.getElem?_eq_some_iff.1 hb).1).trans hb, h⟩
theorem SeenMap.drew {w : World} {b : Nat} {ks : List (Int × Int)} (h : SeenMap w b ks) : SeenMap w.drew b ks := h

theorem asking (q : Int × Int) (w : World) : ∀ (es : List MapEntry) (ks : List (Int × Int)) (i : Nat), es.map (·.key) = ks.map encK → (∀ e ∈ es, e.val = .bool true) →
    ∃ r, (Instr.findAsking 126 (encK q) es i).run Tryd.prog w = .ok r w ∧ ((∃ j, r = some (j, .bool true)) ∧ q ∈ ks ∨ r = none ∧ q ∉ ks)
  | [], ks, i, hk, _ => by
    have : ks = [] := by cases ks <;> simp_all
    subst this
    exact ⟨none, by simp [Instr.findAsking], .inr ⟨rfl, by simp⟩⟩
  | e :: es, [], i, hk, _ => by simp at hk
  | e :: es, k :: ks, i, hk, hv => by
    simp only [List.map_cons, List.cons.injEq] at hk
    obtain ⟨r, hr, hs⟩ := asking q w es ks (i + 1) hk.2 (fun e he => hv e (List.mem_cons_of_mem _ he))
    have he := arr2_eq q.1 q.2 k.1 k.2 w
    by_cases h : q = k
    · refine ⟨some (i, e.val), ?_, .inl ⟨⟨i, by rw [hv e (List.mem_cons_self ..)]⟩, by simp [h]⟩⟩
      subst h
      simp only [Instr.findAsking, Sem.run_bind, hk.1, encK, he]
      simp
    · refine ⟨r, ?_, ?_⟩
      · have : (q.1 == k.1 && q.2 == k.2) = false := by
          rw [Bool.and_eq_false_iff]
          by_cases h1 : q.1 = k.1
          · right; simp; intro h2; exact h (Prod.ext h1 h2)
          · left; simpa using h1
        simp only [Instr.findAsking, Sem.run_bind, hk.1, encK, he, this]
        simpa [encK] using hr
      · rcases hs with ⟨hj, hm⟩ | ⟨hn, hm⟩
        · exact .inl ⟨hj, List.mem_cons_of_mem _ hm⟩
        · exact .inr ⟨hn, by simp [h, hm]⟩

theorem keyOk (em : Bool) (q : Int × Int) (w : World) : (Instr.checkKey em 10000 126 (encK q)).run Tryd.prog w = .ok () w := by
  have hu : Tryd.prog.underlying 126 = some (.array 2 3) := by kernel_rfl
  have hi : Tryd.prog.underlying 3 = some (.int .i64) := by kernel_rfl
  have hs : ∀ w, (sizeOf 3).run Tryd.prog w = .ok 1 w := fun w => by kernel_rfl
  have hp0 : ∀ w, (part 3 #[.int .i64 q.1, .int .i64 q.2] 0).run Tryd.prog w = .ok (.int .i64 q.1) w := fun w => by kernel_rfl
  have hp1 : ∀ w, (part 3 #[.int .i64 q.1, .int .i64 q.2] 1).run Tryd.prog w = .ok (.int .i64 q.2) w := fun w => by kernel_rfl
  have hck : ∀ (n : Nat) (x : Int) (w : World), (Instr.checkKey em (n + 1) 3 (.int .i64 x)).run Tryd.prog w = .ok () w := fun n x w => by
    rw [Instr.checkKey]
    simp only [Sem.run_bind, run_underlying hi, Result.andThen_ok]
    simp
  rw [show (10000 : Nat) = 9999 + 1 from rfl, Instr.checkKey]
  simp only [encK, Sem.run_bind, run_underlying hu, Result.andThen_ok, Std.Legacy.Range.forIn_eq_forIn_range', Std.Legacy.Range.size]
  simp [List.range', hs, hp0, hp1, hck 9998]

theorem findKey_run (q : Int × Int) (w : World) (es : List MapEntry) (ks : List (Int × Int)) (hk : es.map (·.key) = ks.map encK) (hv : ∀ e ∈ es, e.val = .bool true) :
    ∃ r, (Instr.findKey 126 (encK q) es).run Tryd.prog w = .ok r w ∧ ((∃ j, r = some (j, .bool true)) ∧ q ∈ ks ∨ r = none ∧ q ∉ ks) := by
  have hu : Tryd.prog.underlying 126 = some (.array 2 3) := by kernel_rfl
  obtain ⟨r, hr, hs⟩ := asking q w es ks 0 hk hv
  refine ⟨r, ?_, hs⟩
  cases es with
  | nil =>
    have : ks = [] := by cases ks <;> simp_all
    subst this
    rcases hs with ⟨_, h⟩ | ⟨rfl, _⟩
    · cases h
    · simp [Instr.findKey, Instr.findNow, run_underlying hu]
  | cons e es =>
    simp only [Instr.findKey, Sem.run_bind, run_underlying hu, Result.andThen_ok]
    simpa [Instr.findNow, Instr.sameNow] using hr

theorem lookup_run (q : Int × Int) (w : World) (b : Nat) (ks : List (Int × Int)) (h : SeenMap w b ks) :
    (Instr.lookup 123 (.map (some b)) (encK q) false).run Tryd.prog w = .ok (.bool (decide (q ∈ ks))) w := by
  have hm : Tryd.prog.underlying 123 = some (.map 126 4) := by kernel_rfl
  have hz : ∀ w, (zeroValue 4).run Tryd.prog w = .ok (.bool false) w := fun w => by kernel_rfl
  obtain ⟨es, clock, hb, hk, hv⟩ := h
  have hg : (getObj b).run Tryd.prog w = .ok (.map es clock) w := by simp [getObj, Sem.run, hb]
  obtain ⟨r, hr, hs⟩ := findKey_run q w es.toList ks hk hv
  simp only [Instr.lookup, Sem.run_bind, run_underlying hm, Result.andThen_ok, hg, keyOk]
  simp only [Sem.run_pure, Result.andThen_ok, hr]
  rcases hs with ⟨⟨j, rfl⟩, hq⟩ | ⟨rfl, hq⟩
  · simp [hq]
  · simp [hq, hz]

theorem update_run (q : Int × Int) (w : World) (b : Nat) (ks : List (Int × Int)) (h : SeenMap w b ks) (hq : q ∉ ks) :
    ∃ w', (Instr.mapUpdate 123 (.map (some b)) (encK q) (.bool true)).run Tryd.prog w = .ok () w' ∧ SeenMap w' b (ks ++ [q]) ∧ w.grownBy w' (some b) := by
  have hm : Tryd.prog.underlying 123 = some (.map 126 4) := by kernel_rfl
  obtain ⟨es, clock, hb, hk, hv⟩ := h
  have hg : (getObj b).run Tryd.prog w = .ok (.map es clock) w := by simp [getObj, Sem.run, hb]
  obtain ⟨r, hr, hs⟩ := findKey_run q w es.toList ks hk hv
  rcases hs with ⟨_, h⟩ | ⟨rfl, _⟩
  · exact (hq h).elim
  have hlt : b < w.heap.size := (Array.getElem?_eq_some_iff.1 hb).1
  refine ⟨{ w with heap := w.heap.setIfInBounds b (.map (es.push { key := encK q, val := .bool true, born := clock }) (clock + 1)) }, ?_, ?_, ?_⟩
  · simp only [Instr.mapUpdate, Sem.run_bind, run_underlying hm, Result.andThen_ok, hg, keyOk, hr]
    simp [setObj, Sem.run, hb]
  · exact ⟨es.push { key := encK q, val := .bool true, born := clock }, clock + 1, by simp [hlt], by simp [hk], by
      intro e he
      simp only [Array.toList_push, List.mem_append, List.mem_singleton] at he
      rcases he with he | rfl
      · exact hv e he
      · rfl⟩
  · exact ⟨rfl, rfl, rfl, by simp, fun i hi hne => by simp only [Array.getElem?_setIfInBounds]; rw [if_neg (fun e => hne (by rw [e]))]⟩
end Go.Proofs.YthhgpiolcnojfaaDoor
