/- Plain facts of NetOnce, and the calls that take a thing, whatever the place. -/
import Derived.Test.YthnlppbfmmiioaaAsk2
namespace Go.Proofs.Ythnlppbfmmiioaa
open Go.RowKit Go.Shelf

/-- Behind k rounds: what is on its way, what was taken. -/
def OnceP (n O : NetV) (TA : List AskV) (TT : List TellV) (k : Nat) : Prop :=
  (TA ++ O.asks).Perm n.asks ∧ (TT ++ O.tells).Perm n.tells ∧ O.asks.length = n.asks.length - k ∧ O.tells.length = n.tells.length - k
theorem OnceP.start (n : NetV) : OnceP n n [] [] 0 := ⟨List.Perm.refl _, List.Perm.refl _, rfl, rfl⟩
theorem OnceP.ok {n O : NetV} {TA : List AskV} {TT : List TellV} {k : Nat} (h : OnceP n O TA TT k) (hs : small n) : netOk O ∧ TA.length ≤ 70 ∧ TT.length ≤ 70 ∧ ∀ x ∈ TT, x.seen.length ≤ 60 := by
  obtain ⟨h1, h2, h3, h4⟩ := h
  have e1 := h1.length_eq
  have e2 := h2.length_eq
  simp at e1 e2
  have s1 := hs.1
  have s2 := hs.2.1
  refine ⟨⟨by omega, by omega, ?_⟩, by omega, by omega, ?_⟩
  · intro t ht
    have := hs.2.2 t (h2.mem_iff.1 (List.mem_append_right _ ht))
    omega
  · intro t ht
    exact hs.2.2 t (h2.mem_iff.1 (List.mem_append_left _ ht))
theorem perm_snoc {α : Type} {T A B L : List α} {x : α} (h : (T ++ A).Perm L) (hx : (x :: B).Perm A) : ((T ++ [x]) ++ B).Perm L := by
  rw [List.append_assoc]
  exact (List.Perm.append_left T (by simpa using hx)).trans h
/-- What a round does to a row: it takes one, or there is none. -/
def TookA (A B : List AskV) (x : AskV) (T T' : List AskV) : Prop := (0 < A.length ∧ (x :: B).Perm A ∧ T' = T ++ [x]) ∨ (A.length = 0 ∧ B = A ∧ T' = T)
def TookT (A B : List TellV) (x : TellV) (T T' : List TellV) : Prop := (0 < A.length ∧ (x :: B).Perm A ∧ T' = T ++ [x]) ∨ (A.length = 0 ∧ B = A ∧ T' = T)
theorem OnceP.step {n O P Q : NetV} {TA TA' : List AskV} {TT TT' : List TellV} {k : Nat} {x : AskV} {t : TellV} (h : OnceP n O TA TT k) (hP : P.tells = O.tells) (hQ : Q.asks = P.asks)
    (ha : TookA O.asks P.asks x TA TA') (ht : TookT P.tells Q.tells t TT TT') : OnceP n Q TA' TT' (k + 1) := by
  obtain ⟨h1, h2, h3, h4⟩ := h
  rw [hP] at ht
  refine ⟨?_, ?_, ?_, ?_⟩
  · rcases ha with ⟨h0, hx, rfl⟩ | ⟨h0, hx, rfl⟩
    · rw [hQ]; exact perm_snoc h1 hx
    · rw [hQ, hx]; exact h1
  · rcases ht with ⟨h0, hx, rfl⟩ | ⟨h0, hx, rfl⟩
    · exact perm_snoc h2 hx
    · rw [hx]; exact h2
  · rw [hQ]
    rcases ha with ⟨h0, hx, rfl⟩ | ⟨h0, hx, rfl⟩
    · have := hx.length_eq; simp at this; omega
    · rw [hx]; omega
  · rcases ht with ⟨h0, hx, rfl⟩ | ⟨h0, hx, rfl⟩
    · have := hx.length_eq; simp at this; omega
    · rw [hx]; omega
theorem erase_perm {α : Type} {x : α} : ∀ {l : List α} {i : Nat}, l[i]? = some x → (x :: l.eraseIdx i).Perm l
  | [], i, h => by simp at h
  | y :: l, 0, h => by simp at h; subst h; exact List.Perm.refl _
  | y :: l, i + 1, h => by
    simp at h
    rw [List.eraseIdx_cons_succ]
    exact (List.Perm.swap y x _).trans (List.Perm.cons y (erase_perm h))

/-- How many more there are of x in the first than in the second, up to a place. -/
def dif {α : Type} (p : α → Bool) (l m : List α) (j : Nat) : Int := ((l.take j).countP p : Int) - ((m.take j).countP p : Int)
theorem dif_zero {α : Type} (p : α → Bool) (l m : List α) : dif p l m 0 = 0 := by simp [dif]
theorem dif_step {α : Type} {p : α → Bool} {l m : List α} {j : Nat} {y z : α} (hy : l[j]? = some y) (hz : m[j]? = some z) :
    dif p l m (j + 1) = dif p l m j + (if p y then 1 else 0) - (if p z then 1 else 0) := by
  unfold dif
  rw [take_snoc l j y hy, take_snoc m j z hz, List.countP_append, List.countP_append]
  cases hp : p y <;> cases hq : p z <;> simp [hp, hq] <;> omega
theorem dif_bd {α : Type} (p : α → Bool) (l m : List α) (j : Nat) (hl : l.length ≤ 70) (hm : m.length ≤ 70) : -70 ≤ dif p l m j ∧ dif p l m j ≤ 70 := by
  unfold dif
  have h1 : (l.take j).countP p ≤ (l.take j).length := List.countP_le_length
  have h2 : (m.take j).countP p ≤ (m.take j).length := List.countP_le_length
  have h3 : (l.take j).length ≤ l.length := List.length_take_le' _ _
  have h4 : (m.take j).length ≤ m.length := List.length_take_le' _ _
  omega
theorem dif_end {α : Type} (p : α → Bool) {l m : List α} (h : m.Perm l) : dif p l m l.length = 0 := by
  unfold dif
  rw [List.take_length, ← h.length_eq, List.take_length, h.countP_eq p]
  omega

/-- Behind a call that takes an Ask. -/
def AskEnd (O : NetV) (w : World) (e : Ending) (w' : World) : Prop :=
  ∃ a c b d x, ∃ P : NetV, ∃ ok : Bool, e = .returned (.tuple #[.agg #[.slice a P.asks.length c, .slice b P.tells.length d], .agg #[.int .u8 x.kind, .int .i64 x.call, .int .i64 x.a, .int .i64 x.b, .int .i64 x.c, .int .i64 x.d], .bool ok]) ∧
    NetOwn w' w.heap.size (.slice a P.asks.length c) (.slice b P.tells.length d) P ∧ Below w.heap.size w w' ∧ P.tells = O.tells ∧ ok = decide (0 < O.asks.length) ∧ (0 < O.asks.length → (x :: P.asks).Perm O.asks) ∧ (O.asks.length = 0 → P.asks = O.asks) ∧ netOk P
theorem ask_takes (a : Option Addr) (c : Nat) (b : Option Addr) (d : Nat) (O : NetV) (at' : Int) (w : World) (hn : NetIs w (.slice a O.asks.length c) (.slice b O.tells.length d) O) (hk : netOk O) :
    Calls Try.prog 17 #[.agg #[.slice a O.asks.length c, .slice b O.tells.length d], .int .i64 at'] w (AskEnd O w) := by
  refine (ask_any _ _ O at' w hn hk).mono ?_
  rintro e w' ⟨ua, ut, rfl, hn', hb⟩
  obtain ⟨a1, c1, b1, d1, rfl, rfl⟩ := hn'.shape
  have hk' : netOk (askV O at').1 := by
    unfold askV; split
    · exact ⟨Nat.le_trans (List.length_eraseIdx_le _ _) hk.1, hk.2⟩
    · exact hk
  refine ⟨a1, c1, b1, d1, (askV O at').2.1, (askV O at').1, (askV O at').2.2, rfl, hn', hb, ?_, ?_, ?_, ?_, hk'⟩
  · unfold askV; split <;> rfl
  · unfold askV
    by_cases h : 0 < O.asks.length
    · obtain ⟨x, hx⟩ := get_lt (placeN_is at' _ h (by have := hk.1; omega)).2
      rw [hx]; simp [h]
    · have : O.asks = [] := List.eq_nil_of_length_eq_zero (by omega)
      rw [this]; rfl
  · intro h
    obtain ⟨x, hx⟩ := get_lt (placeN_is at' _ h (by have := hk.1; omega)).2
    have : askV O at' = (⟨O.asks.eraseIdx (placeN at' O.asks.length), O.tells⟩, x, true) := by unfold askV; rw [hx]
    rw [this]
    exact erase_perm hx
  · intro h
    have h0 : O.asks = [] := List.eq_nil_of_length_eq_zero h
    unfold askV; rw [h0]; simpa using h0

/-- Behind a call that takes a Tell. -/
def TellEnd (O : NetV) (w : World) (e : Ending) (w' : World) : Prop :=
  ∃ a c b d sa sc, ∃ t : TellV, ∃ P : NetV, ∃ ok : Bool, e = .returned (.tuple #[.agg #[.slice a P.asks.length c, .slice b P.tells.length d], .agg #[.int .i64 t.call, .int .u8 t.kind, .int .u8 t.code, .int .i64 t.id, .slice sa t.seen.length sc, .bool t.more], .bool ok]) ∧
    NetOwn w' w.heap.size (.slice a P.asks.length c) (.slice b P.tells.length d) P ∧ OwnN w' w.heap.size (.slice sa t.seen.length sc) t.seen ∧ Below w.heap.size w w' ∧ P.asks = O.asks ∧ ok = decide (0 < O.tells.length) ∧ (0 < O.tells.length → (t :: P.tells).Perm O.tells) ∧ (O.tells.length = 0 → P.tells = O.tells)
theorem tell_takes (a : Option Addr) (c : Nat) (b : Option Addr) (d : Nat) (O : NetV) (at' : Int) (w : World) (hn : NetIs w (.slice a O.asks.length c) (.slice b O.tells.length d) O) (hk : netOk O) :
    Calls Try.prog 19 #[.agg #[.slice a O.asks.length c, .slice b O.tells.length d], .int .i64 at'] w (TellEnd O w) := by
  refine (tell_own _ _ O at' w hn hk).mono ?_
  rintro e w' ⟨ua, ut, s, rfl, hn', hs, hb⟩
  obtain ⟨a1, c1, b1, d1, rfl, rfl⟩ := hn'.shape
  obtain ⟨sa, sc, rfl⟩ := shape_row (hs.row encN_len (by decide))
  refine ⟨a1, c1, b1, d1, sa, sc, (tellV O at').2.1, (tellV O at').1, (tellV O at').2.2, rfl, hn', hs, hb, ?_, ?_, ?_, ?_⟩
  · unfold tellV; split <;> rfl
  · unfold tellV
    by_cases h : 0 < O.tells.length
    · obtain ⟨x, hx⟩ := get_lt (placeN_is at' _ h (by have := hk.2.1; omega)).2
      rw [hx]; simp [h]
    · have : O.tells = [] := List.eq_nil_of_length_eq_zero (by omega)
      rw [this]; rfl
  · intro h
    obtain ⟨x, hx⟩ := get_lt (placeN_is at' _ h (by have := hk.2.1; omega)).2
    have : tellV O at' = (⟨O.asks, O.tells.eraseIdx (placeN at' O.tells.length)⟩, x, true) := by unfold tellV; rw [hx]
    rw [this]
    exact erase_perm hx
  · intro h
    have h0 : O.tells = [] := List.eq_nil_of_length_eq_zero h
    unfold tellV; rw [h0]; simpa using h0

/-- What the rounds keep. -/
def OnceR (n : NetV) (B bo : Nat) (k : Nat) (va vt : Value) (W : World) : Prop :=
  ∃ (O : NetV) (TA : List AskV) (TM : List TellM) (TT : List TellV) (a : Option Addr) (c : Nat) (b : Option Addr) (d : Nat),
    OnceP n O TA TT k ∧ W.heap[bo]? = some (.cells #[.slice a O.asks.length c, .slice b O.tells.length d] 25) ∧ NetIs W (.slice a O.asks.length c) (.slice b O.tells.length d) O ∧ OwnA W B va TA ∧ OwnT W B vt TM ∧ TellsOwn W B TM TT
theorem netown_grown {W W' : World} {base : Nat} {va vt : Value} {n : NetV} {row : Option Nat} (h : NetOwn W base va vt n) (hg : W.grownBy W' row) (hr : ∀ r, row = some r → r < base) : NetOwn W' base va vt n :=
  NetOwn.on h (on_grown hg (fun r e h => by have := hr r e; omega))
end Go.Proofs.Ythnlppbfmmiioaa
