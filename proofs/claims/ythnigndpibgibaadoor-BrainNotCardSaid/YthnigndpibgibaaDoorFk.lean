/- slices.IndexFunc by a brain's closures; brain.Find, brain.Token; slices.Index of phases. Printed by gn_idx.py. -/
import Derived.Test.YthnigndpibgibaaDoorBz
namespace Go.Proofs.YthnigndpibgibaaDoor
open Go.RowKit Go.Shelf
attribute [-go_sem] loadVar
attribute [local go_sem] load_other

/-- Where the first lies of which something holds; -1: nowhere. -/
def idxL {α : Type} (L : List α) (p : α → Bool) : Int := match L.findIdx? p with
  | some i => i
  | none => -1
section
variable {α : Type} {L : List α} {p : α → Bool}
theorem idxL_at {k : Nat} {x : α} (hx : L[k]? = some x) (ht : p x = true) (h : ∀ y ∈ L.take k, p y = false) : idxL L p = k := by
  have : L.findIdx? p = some k := by
    rw [List.findIdx?_eq_some_iff_getElem]
    obtain ⟨hk, hx'⟩ := List.getElem?_eq_some_iff.1 hx
    refine ⟨hk, by simp [hx', ht], fun j hj => ?_⟩
    have hm : L[j] ∈ L.take k := by
      refine List.mem_of_getElem? (i := j) ?_
      rw [List.getElem?_take, if_pos hj, List.getElem?_eq_getElem (by omega)]
    simpa using h _ hm
  simp [idxL, this]
theorem idxL_no (h : ∀ y ∈ L, p y = false) : idxL L p = -1 := by
  have : L.findIdx? p = none := by
    rw [List.findIdx?_eq_none_iff]
    intro x hx
    simpa using h x hx
  simp [idxL, this]
theorem idxL_next {k : Nat} {x : α} (hx : L[k]? = some x) (h : ∀ y ∈ L.take k, p y = false) (hne : p x = false) : ∀ y ∈ L.take (k + 1), p y = false := by
  rw [take_snoc L k x hx]
  intro y hy
  rcases List.mem_append.1 hy with h1 | h1
  · exact h y h1
  · simp at h1; rw [h1]; exact hne
theorem idxL_cases (L : List α) (p : α → Bool) : (idxL L p = -1 ∧ ∀ y ∈ L, p y = false) ∨ ∃ (k : Nat) (x : α), idxL L p = k ∧ L[k]? = some x ∧ p x = true ∧ ∀ y ∈ L.take k, p y = false := by
  unfold idxL
  cases hf : L.findIdx? p with
  | none => exact .inl ⟨rfl, fun y hy => by have := List.findIdx?_eq_none_iff.1 hf y hy; simpa using this⟩
  | some k =>
    obtain ⟨hk, h1, h2⟩ := List.findIdx?_eq_some_iff_getElem.1 hf
    refine .inr ⟨k, L[k], rfl, List.getElem?_eq_getElem hk, h1, fun y hy => ?_⟩
    obtain ⟨j, hj, rfl⟩ := List.mem_iff_getElem.1 hy
    have hjk : j < k := by simp at hj; omega
    have := h2 j hjk
    rw [List.getElem_take]
    simpa using this
end
def encInv (x : IntentV) : Value := .agg #[.int .i64 x.token, .int .i64 x.version, .int .i64 x.zone, .bool x.warm]
def encKv (x : KeptV) : Value := .agg #[.int .i64 x.id, .int .i64 x.token, .int .i64 x.version, .int .i64 x.zone, .int .u8 x.phase, .int .i64 x.since, .bool x.guarded, .bool x.complete]
set_option maxHeartbeats 400000 in
theorem find1_any (x : KeptV) (p : Nat) (t : Int) (W : World) (h : W.cell? ⟨p, 0, none⟩ = some (.int .i64 t)) :
    Calls Tryd.prog 44 (#[encKv x] ++ #[.pointer (some ⟨p, 0, none⟩)]) W fun e W'' => e = .returned (.bool (x.id == t)) ∧ Below W.heap.size W W'' := by
  have hp := lt_of_cell h
  dsimp only at hp
  unfold encKv
  go_enter Tryd.func44, Tryd.ntmps44
  go_wp2
  go_ret
  exact ⟨rfl, (Below.refl _ _).alloc (Nat.le_refl _) _⟩
set_option maxHeartbeats 400000 in
theorem token1_any (x : IntentV) (p : Nat) (t : Int) (W : World) (h : W.cell? ⟨p, 0, none⟩ = some (.int .i64 t)) :
    Calls Tryd.prog 46 (#[encInv x] ++ #[.pointer (some ⟨p, 0, none⟩)]) W fun e W'' => e = .returned (.bool (x.token == t)) ∧ Below W.heap.size W W'' := by
  have hp := lt_of_cell h
  dsimp only at hp
  unfold encInv
  go_enter Tryd.func46, Tryd.ntmps46
  go_wp2
  go_ret
  exact ⟨rfl, (Below.refl _ _).alloc (Nat.le_refl _) _⟩
set_option maxHeartbeats 400000 in
theorem keep1_any (x : KeptV) (p : Nat) (t : Int) (W : World) (h : W.cell? ⟨p, 0, none⟩ = some (.int .i64 t)) :
    Calls Tryd.prog 91 (#[encKv x] ++ #[.pointer (some ⟨p, 0, none⟩)]) W fun e W'' => e = .returned (.bool (decide (t < x.id))) ∧ Below W.heap.size W W'' := by
  have hp := lt_of_cell h
  dsimp only at hp
  unfold encKv
  go_enter Tryd.func91, Tryd.ntmps91
  go_wp2
  go_ret
  exact ⟨rfl, (Below.refl _ _).alloc (Nat.le_refl _) _⟩
/-- A number that may not be in a record. -/
def badN (x : Int) : Bool := decide (x < 0) || decide (1099511627776 < x)
set_option maxHeartbeats 400000 in
theorem bad1_any (x : Int) (W : World) : Calls Tryd.prog 59 (#[.int .i64 x] ++ #[]) W fun e W'' => e = .returned (.bool (badN x)) ∧ Below W.heap.size W W'' := by
  unfold badN
  by_cases h : x < 0
  · have d : decide (x < 0) = true := by simpa using h
    rw [d]
    go_enter Tryd.func59, Tryd.ntmps59
    go_wp2
    go_ret
    exact ⟨rfl, Below.refl _ _⟩
  · have d : decide (x < 0) = false := by simpa using h
    rw [d]
    go_enter Tryd.func59, Tryd.ntmps59
    go_wp2
    go_ret
    exact ⟨rfl, Below.refl _ _⟩
set_option maxHeartbeats 1000000 in
set_option maxRecDepth 100000 in
theorem indexK_any (s : Value) (I : List KeptV) (p : Nat) (t : Int) (w : World) (hs : RowOf 8 encKp w s I) (hL : I.length ≤ 1000000) (hp : w.cell? ⟨p, 0, none⟩ = some (.int .i64 t)) :
    Calls Tryd.prog 43 #[s, .func (.func 44) #[] #[.pointer (some ⟨p, 0, none⟩)]] w fun e w' => e = .returned (.int .i64 (idxL I (fun x => x.id == t))) ∧ Below w.heap.size w w' := by
  obtain ⟨a, c, rfl, hl1, hl2, hl3, hop⟩ := hs.open
  have HOP := hid hop
  clear hop hs
  have HP := hid hp
  clear hp
  go_enter Tryd.func43, Tryd.ntmps43
  go_wp2
  go_loopw [8] (fun i wr => ∃ k : Nat, k ≤ I.length ∧ i = .int .i64 k ∧ (∀ y ∈ I.take k, (fun x => x.id == t) y = false) ∧ Below w.heap.size w wr) (fun i _ => I.length - (intOf i).toNat)
  case atStart => exact ⟨0, Nat.zero_le _, rfl, by simp, Below.refl _ _⟩
  case round =>
    obtain ⟨k, hk, rfl, htk, hB⟩ := hrel
    have HT := hid htk
    clear htk
    have hsz := hB.size
    by_cases hlt : k < I.length
    · obtain ⟨b1, o1, rfl, hb1, hr1⟩ := HOP.out (by omega)
      obtain ⟨x, hx⟩ := get_lt hlt
      obtain ⟨g0, g1, g2, g3, g4, g5, g6, g7⟩ := rowK (hr1.below hB hb1) hx
      have HX := hid hx
      have HB := hid hB
      have hkL : (k : Int) < (I.length : Int) := by omega
      obtain ⟨q, hq⟩ : ∃ q, (x.id == t) = q := ⟨_, rfl⟩
      have HC := find1_any x p t wr (cell_below HP.out hB)
      rw [hq] at HC
      have HC := hid HC
      have HQ := hid hq
      clear hx hB hq
      go_wp2_with fail
      refine HC.out.mono ?_
      rintro e w2 ⟨rfl, hb⟩
      have HB2 := hid (HB.out.trans (hb.mono hsz))
      clear hb
      cases q with
      | true =>
        go_wp2
        go_ret
        exact ⟨by rw [idxL_at HX.out HQ.out HT.out]; rfl, HB2.out⟩
      | false =>
        go_wp2
        go_roundw
        case rel => exact ⟨k + 1, by omega, by go_num, idxL_next HX.out HT.out HQ.out, HB2.out⟩
        case measure => simp [intOf]; omega
    · obtain rfl : k = I.length := by omega
      go_wp2
      go_ret
      exact ⟨by rw [idxL_no (fun y hy => HT.out y (by rw [List.take_length]; exact hy))]; rfl, hB⟩
set_option maxHeartbeats 1000000 in
set_option maxRecDepth 100000 in
theorem indexG_any (s : Value) (I : List KeptV) (p : Nat) (t : Int) (w : World) (hs : RowOf 8 encKp w s I) (hL : I.length ≤ 1000000) (hp : w.cell? ⟨p, 0, none⟩ = some (.int .i64 t)) :
    Calls Tryd.prog 43 #[s, .func (.func 91) #[] #[.pointer (some ⟨p, 0, none⟩)]] w fun e w' => e = .returned (.int .i64 (idxL I (fun x => decide (t < x.id)))) ∧ Below w.heap.size w w' := by
  obtain ⟨a, c, rfl, hl1, hl2, hl3, hop⟩ := hs.open
  have HOP := hid hop
  clear hop hs
  have HP := hid hp
  clear hp
  go_enter Tryd.func43, Tryd.ntmps43
  go_wp2
  go_loopw [8] (fun i wr => ∃ k : Nat, k ≤ I.length ∧ i = .int .i64 k ∧ (∀ y ∈ I.take k, (fun x => decide (t < x.id)) y = false) ∧ Below w.heap.size w wr) (fun i _ => I.length - (intOf i).toNat)
  case atStart => exact ⟨0, Nat.zero_le _, rfl, by simp, Below.refl _ _⟩
  case round =>
    obtain ⟨k, hk, rfl, htk, hB⟩ := hrel
    have HT := hid htk
    clear htk
    have hsz := hB.size
    by_cases hlt : k < I.length
    · obtain ⟨b1, o1, rfl, hb1, hr1⟩ := HOP.out (by omega)
      obtain ⟨x, hx⟩ := get_lt hlt
      obtain ⟨g0, g1, g2, g3, g4, g5, g6, g7⟩ := rowK (hr1.below hB hb1) hx
      have HX := hid hx
      have HB := hid hB
      have hkL : (k : Int) < (I.length : Int) := by omega
      obtain ⟨q, hq⟩ : ∃ q, (decide (t < x.id)) = q := ⟨_, rfl⟩
      have HC := keep1_any x p t wr (cell_below HP.out hB)
      rw [hq] at HC
      have HC := hid HC
      have HQ := hid hq
      clear hx hB hq
      go_wp2_with fail
      refine HC.out.mono ?_
      rintro e w2 ⟨rfl, hb⟩
      have HB2 := hid (HB.out.trans (hb.mono hsz))
      clear hb
      cases q with
      | true =>
        go_wp2
        go_ret
        exact ⟨by rw [idxL_at HX.out HQ.out HT.out]; rfl, HB2.out⟩
      | false =>
        go_wp2
        go_roundw
        case rel => exact ⟨k + 1, by omega, by go_num, idxL_next HX.out HT.out HQ.out, HB2.out⟩
        case measure => simp [intOf]; omega
    · obtain rfl : k = I.length := by omega
      go_wp2
      go_ret
      exact ⟨by rw [idxL_no (fun y hy => HT.out y (by rw [List.take_length]; exact hy))]; rfl, hB⟩
set_option maxHeartbeats 1000000 in
set_option maxRecDepth 100000 in
theorem indexI_any (s : Value) (I : List IntentV) (p : Nat) (t : Int) (w : World) (hs : RowOf 4 encIn w s I) (hL : I.length ≤ 1000000) (hp : w.cell? ⟨p, 0, none⟩ = some (.int .i64 t)) :
    Calls Tryd.prog 45 #[s, .func (.func 46) #[] #[.pointer (some ⟨p, 0, none⟩)]] w fun e w' => e = .returned (.int .i64 (idxL I (fun x => x.token == t))) ∧ Below w.heap.size w w' := by
  obtain ⟨a, c, rfl, hl1, hl2, hl3, hop⟩ := hs.open
  have HOP := hid hop
  clear hop hs
  have HP := hid hp
  clear hp
  go_enter Tryd.func45, Tryd.ntmps45
  go_wp2
  go_loopw [8] (fun i wr => ∃ k : Nat, k ≤ I.length ∧ i = .int .i64 k ∧ (∀ y ∈ I.take k, (fun x => x.token == t) y = false) ∧ Below w.heap.size w wr) (fun i _ => I.length - (intOf i).toNat)
  case atStart => exact ⟨0, Nat.zero_le _, rfl, by simp, Below.refl _ _⟩
  case round =>
    obtain ⟨k, hk, rfl, htk, hB⟩ := hrel
    have HT := hid htk
    clear htk
    have hsz := hB.size
    by_cases hlt : k < I.length
    · obtain ⟨b1, o1, rfl, hb1, hr1⟩ := HOP.out (by omega)
      obtain ⟨x, hx⟩ := get_lt hlt
      obtain ⟨g0, g1, g2, g3⟩ := rowI (hr1.below hB hb1) hx
      have HX := hid hx
      have HB := hid hB
      have hkL : (k : Int) < (I.length : Int) := by omega
      obtain ⟨q, hq⟩ : ∃ q, (x.token == t) = q := ⟨_, rfl⟩
      have HC := token1_any x p t wr (cell_below HP.out hB)
      rw [hq] at HC
      have HC := hid HC
      have HQ := hid hq
      clear hx hB hq
      go_wp2_with fail
      refine HC.out.mono ?_
      rintro e w2 ⟨rfl, hb⟩
      have HB2 := hid (HB.out.trans (hb.mono hsz))
      clear hb
      cases q with
      | true =>
        go_wp2
        go_ret
        exact ⟨by rw [idxL_at HX.out HQ.out HT.out]; rfl, HB2.out⟩
      | false =>
        go_wp2
        go_roundw
        case rel => exact ⟨k + 1, by omega, by go_num, idxL_next HX.out HT.out HQ.out, HB2.out⟩
        case measure => simp [intOf]; omega
    · obtain rfl : k = I.length := by omega
      go_wp2
      go_ret
      exact ⟨by rw [idxL_no (fun y hy => HT.out y (by rw [List.take_length]; exact hy))]; rfl, hB⟩
set_option maxHeartbeats 1000000 in
set_option maxRecDepth 100000 in
theorem indexB_any (s : Value) (I : List Int) (w : World) (hs : RowOf 1 encI w s I) (hL : I.length ≤ 1000000) :
    Calls Tryd.prog 84 #[s, .func (.func 59) #[] #[]] w fun e w' => e = .returned (.int .i64 (idxL I (fun x => badN x))) ∧ Below w.heap.size w w' := by
  obtain ⟨a, c, rfl, hl1, hl2, hl3, hop⟩ := hs.open
  have HOP := hid hop
  clear hop hs
  go_enter Tryd.func84, Tryd.ntmps84
  go_wp2
  go_loopw [8] (fun i wr => ∃ k : Nat, k ≤ I.length ∧ i = .int .i64 k ∧ (∀ y ∈ I.take k, (fun x => badN x) y = false) ∧ Below w.heap.size w wr) (fun i _ => I.length - (intOf i).toNat)
  case atStart => exact ⟨0, Nat.zero_le _, rfl, by simp, Below.refl _ _⟩
  case round =>
    obtain ⟨k, hk, rfl, htk, hB⟩ := hrel
    have HT := hid htk
    clear htk
    have hsz := hB.size
    by_cases hlt : k < I.length
    · obtain ⟨b1, o1, rfl, hb1, hr1⟩ := HOP.out (by omega)
      obtain ⟨x, hx⟩ := get_lt hlt
      have g0 := rowN1 (hr1.below hB hb1) hx
      have HX := hid hx
      have HB := hid hB
      have hkL : (k : Int) < (I.length : Int) := by omega
      obtain ⟨q, hq⟩ : ∃ q, (badN x) = q := ⟨_, rfl⟩
      have HC := bad1_any x wr
      rw [hq] at HC
      have HC := hid HC
      have HQ := hid hq
      clear hx hB hq
      go_wp2_with fail
      refine HC.out.mono ?_
      rintro e w2 ⟨rfl, hb⟩
      have HB2 := hid (HB.out.trans (hb.mono hsz))
      clear hb
      cases q with
      | true =>
        go_wp2
        go_ret
        exact ⟨by rw [idxL_at HX.out HQ.out HT.out]; rfl, HB2.out⟩
      | false =>
        go_wp2
        go_roundw
        case rel => exact ⟨k + 1, by omega, by go_num, idxL_next HX.out HT.out HQ.out, HB2.out⟩
        case measure => simp [intOf]; omega
    · obtain rfl : k = I.length := by omega
      go_wp2
      go_ret
      exact ⟨by rw [idxL_no (fun y hy => HT.out y (by rw [List.take_length]; exact hy))]; rfl, hB⟩
set_option maxHeartbeats 1000000 in
theorem bfind_any (cs : Array Value) (iv kv : Value) (hcs : BC cs iv kv) (I : List KeptV) (t : Int) (w : World) (hI : RowOf 8 encKp w kv I) (hl : I.length ≤ 1000) :
    Calls Tryd.prog 23 #[.agg cs, .int .i64 t] w fun e w' => e = .returned (.int .i64 (idxL I (fun x => x.id == t))) ∧ Below w.heap.size w w' := by
  have hmf := mkfunc
  have Z0 : Below w.heap.size w ((w.alloc (.cells cs 30)).alloc (.cells #[.int .i64 t] 3)) := ((Below.refl _ _).alloc (Nat.le_refl _) _).alloc (by simp) _
  have hg := (BB.new w cs).below ((Below.refl _ _).alloc (Nat.le_refl _) (.cells #[.int .i64 t] 3)) (by simp)
  obtain ⟨g1, g2, g3, g4⟩ := hg.two hcs
  have HC := hid (indexK_any kv I (w.heap.size + 1) t _ (hI.below Z0) (by omega) (blk_cell (heap_new2 w (.cells cs 30) (.cells #[.int .i64 t] 3)) 0))
  have HZ := hid Z0
  obtain ⟨e1, e2, e3⟩ := hcs
  clear Z0 hg hI
  go_enter Tryd.func23, Tryd.ntmps23
  go_wp2_with fail
  refine HC.out.mono ?_
  rintro e w1 ⟨rfl, hb⟩
  go_wp2
  go_ret
  exact ⟨rfl, HZ.out.trans (hb.mono HZ.out.size)⟩
set_option maxHeartbeats 1000000 in
theorem btoken_any (cs : Array Value) (iv kv : Value) (hcs : BC cs iv kv) (I : List IntentV) (t : Int) (w : World) (hI : RowOf 4 encIn w iv I) (hl : I.length ≤ 1000) :
    Calls Tryd.prog 24 #[.agg cs, .int .i64 t] w fun e w' => e = .returned (.int .i64 (idxL I (fun x => x.token == t))) ∧ Below w.heap.size w w' := by
  have hmf := mkfunc
  have Z0 : Below w.heap.size w ((w.alloc (.cells cs 30)).alloc (.cells #[.int .i64 t] 3)) := ((Below.refl _ _).alloc (Nat.le_refl _) _).alloc (by simp) _
  have hg := (BB.new w cs).below ((Below.refl _ _).alloc (Nat.le_refl _) (.cells #[.int .i64 t] 3)) (by simp)
  obtain ⟨g1, g2, g3, g4⟩ := hg.two hcs
  have HC := hid (indexI_any iv I (w.heap.size + 1) t _ (hI.below Z0) (by omega) (blk_cell (heap_new2 w (.cells cs 30) (.cells #[.int .i64 t] 3)) 0))
  have HZ := hid Z0
  obtain ⟨e1, e2, e3⟩ := hcs
  clear Z0 hg hI
  go_enter Tryd.func24, Tryd.ntmps24
  go_wp2_with fail
  refine HC.out.mono ?_
  rintro e w1 ⟨rfl, hb⟩
  go_wp2
  go_ret
  exact ⟨rfl, HZ.out.trans (hb.mono HZ.out.size)⟩
/-- Whether a record's numbers hold one that may not be. -/
theorem containsB_any (s : Value) (L : List Int) (w : World) (hs : RowOf 1 encI w s L) (hL : L.length ≤ 1000000) :
    Calls Tryd.prog 58 #[s, .func (.func 59) #[] #[]] w fun e w' => e = .returned (.bool (L.any badN)) ∧ Below w.heap.size w w' := by
  have HC := hid (indexB_any s L w hs hL)
  obtain ⟨q, hq⟩ : ∃ q, L.any badN = q := ⟨_, rfl⟩
  rw [hq]
  have HQ := hid (show (if (0 : Int) ≤ idxL L (fun x => badN x) then true else false) = q by
    rw [← hq]
    rcases idxL_cases L (fun x => badN x) with ⟨h1, h2⟩ | ⟨k, x, h1, h2, h3, _⟩
    · rw [h1]
      have : L.any badN = false := by rw [List.any_eq_false]; intro y hy; simp [h2 y hy]
      simp [this]
    · rw [h1]
      have : L.any badN = true := List.any_eq_true.2 ⟨x, mem_get h2, h3⟩
      simp [this])
  clear hs hq
  go_enter Tryd.func58, Tryd.ntmps58
  go_wp2_with fail
  refine HC.out.mono ?_
  rintro e w1 ⟨rfl, hb⟩
  have HB := hid hb
  clear hb
  go_wp2
  go_ret
  exact ⟨ret_bool (by rw [← HQ.out]; by_cases h : (0 : Int) ≤ idxL L (fun x => badN x) <;> simp [h]), HB.out⟩
end Go.Proofs.YthnigndpibgibaaDoor
