import Derived.Test.YtgcajfglidflnaaGreatDoorClm
import Derived.Deep.RegionLaw
/- slices.IndexFunc by a brain's closures; brain.Find, brain.Token; slices.Index of phases. Printed by gn_idx.py. -/
namespace Go.Proofs.YtgcajfglidflnaaGreatDoor
open Go.RowKit Go.Shelf
attribute [-go_sem] loadVar
attribute [local go_sem] load_other

/-- Where the first lies of which something holds; -1: nowhere. -/
def idxL {α : Type} (L : List α) (p : α → Bool) : Int := match L.findIdx? p with
 | some i => i
 | none => -1
section
variable {α : Type} {L : List α} {p : α → Bool}
theorem idxL_at {k : Nat} {x : α} (hx : L[k]? = some x) (ht : p x = true) (h : ∀ y ∈ L.take k, p y = false) : idxL L p = k := by
 have : L.findIdx? p = some k := by
  rw [List.findIdx?_eq_some_iff_getElem]
  obtain ⟨hk, hx'⟩ := List.getElem?_eq_some_iff.1 hx
  refine ⟨hk, by simp [hx', ht], fun j hj => ?_⟩
  have hm : L[j] ∈ L.take k := by
   refine List.mem_of_getElem? (i := j) ?_
   rw [List.getElem?_take, if_pos hj, List.getElem?_eq_getElem (by omega)]
  simpa using h _ hm
 simp [idxL, this]
theorem idxL_no (h : ∀ y ∈ L, p y = false) : idxL L p = -1 := by
 have : L.findIdx? p = none := by
  rw [List.findIdx?_eq_none_iff]
  intro x hx
  simpa using h x hx
 simp [idxL, this]
theorem idxL_next {k : Nat} {x : α} (hx : L[k]? = some x) (h : ∀ y ∈ L.take k, p y = false) (hne : p x = false) : ∀ y ∈ L.take (k + 1), p y = false := by
 rw [take_snoc L k x hx]
 intro y hy
 rcases List.mem_append.1 hy with h1 | h1
 ·exact h y h1
 ·simp at h1; rw [h1]; exact hne
theorem idxL_cases (L : List α) (p : α → Bool) : (idxL L p = -1 ∧ ∀ y ∈ L, p y = false) ∨ ∃ (k : Nat) (x : α), idxL L p = k ∧ L[k]? = some x ∧ p x = true ∧ ∀ y ∈ L.take k, p y = false := by
 unfold idxL
 cases hf : L.findIdx? p with
 | none => exact .inl ⟨rfl, fun y hy => by have := List.findIdx?_eq_none_iff.1 hf y hy; simpa using this⟩
 | some k =>
  obtain ⟨hk, h1, h2⟩ := List.findIdx?_eq_some_iff_getElem.1 hf
  refine .inr ⟨k, L[k], rfl, List.getElem?_eq_getElem hk, h1, fun y hy => ?_⟩
  obtain ⟨j, hj, rfl⟩ := List.mem_iff_getElem.1 hy
  have hjk : j < k := by simp at hj; omega
  have := h2 j hjk
  rw [List.getElem_take]
  simpa using this
end
def encInv (x : IntentV) : Value := .agg #[.int .i64 x.token, .int .i64 x.version, .int .i64 x.zone, .bool x.warm]
def encKv (x : KeptV) : Value := .agg #[.int .i64 x.id, .int .i64 x.token, .int .i64 x.version, .int .i64 x.zone, .int .u8 x.phase, .int .i64 x.since, .bool x.guarded, .bool x.complete]
set_option maxHeartbeats 400000 in
theorem find1_any (x : KeptV) (p : Nat) (t : Int) (W : World) (h : W.cell? ⟨p, 0, none⟩ = some (.int .i64 t)) :
  Calls Tryz.prog 58 (#[encKv x] ++ #[.pointer (some ⟨p, 0, none⟩)]) W fun e W'' => e = .returned (.bool (x.id == t)) ∧ Below W.heap.size W W'' := by
 have hp := lt_of_cell h
 dsimp only at hp
 unfold encKv
 go_enter Tryz.func58, Tryz.ntmps58
 go_wp2
 go_ret
 exact ⟨rfl, (Below.refl _ _).alloc (Nat.le_refl _) _⟩
set_option maxHeartbeats 400000 in
theorem token1_any (x : IntentV) (p : Nat) (t : Int) (W : World) (h : W.cell? ⟨p, 0, none⟩ = some (.int .i64 t)) :
  Calls Tryz.prog 56 (#[encInv x] ++ #[.pointer (some ⟨p, 0, none⟩)]) W fun e W'' => e = .returned (.bool (x.token == t)) ∧ Below W.heap.size W W'' := by
 have hp := lt_of_cell h
 dsimp only at hp
 unfold encInv
 go_enter Tryz.func56, Tryz.ntmps56
 go_wp2
 go_ret
 exact ⟨rfl, (Below.refl _ _).alloc (Nat.le_refl _) _⟩
set_option maxHeartbeats 400000 in
theorem keep1_any (x : KeptV) (p : Nat) (t : Int) (W : World) (h : W.cell? ⟨p, 0, none⟩ = some (.int .i64 t)) :
  Calls Tryz.prog 101 (#[encKv x] ++ #[.pointer (some ⟨p, 0, none⟩)]) W fun e W'' => e = .returned (.bool (decide (t < x.id))) ∧ Below W.heap.size W W'' := by
 have hp := lt_of_cell h
 dsimp only at hp
 unfold encKv
 go_enter Tryz.func101, Tryz.ntmps101
 go_wp2
 go_ret
 exact ⟨rfl, (Below.refl _ _).alloc (Nat.le_refl _) _⟩
/-- A number that may not be in a record. -/
def badN (x : Int) : Bool := decide (x < 0) || decide (1099511627776 < x)
set_option maxHeartbeats 400000 in
theorem bad1_any (x : Int) (W : World) : Calls Tryz.prog 70 (#[.int .i64 x] ++ #[]) W fun e W'' => e = .returned (.bool (badN x)) ∧ Below W.heap.size W W'' := by
 unfold badN
 by_cases h : x < 0
 ·have d : decide (x < 0) = true := by simpa using h
  rw [d]
  go_enter Tryz.func70, Tryz.ntmps70
  go_wp2
  go_ret
  exact ⟨rfl, Below.refl _ _⟩
 ·have d : decide (x < 0) = false := by simpa using h
  rw [d]
  go_enter Tryz.func70, Tryz.ntmps70
  go_wp2
  go_ret
  exact ⟨rfl, Below.refl _ _⟩
set_option maxHeartbeats 1000000 in
set_option maxRecDepth 100000 in
theorem indexK_any (s : Value) (I : List KeptV) (p : Nat) (t : Int) (w : World) (hs : RowOf 8 encKp w s I) (hL : I.length ≤ 1000000) (hp : w.cell? ⟨p, 0, none⟩ = some (.int .i64 t)) :
  Calls Tryz.prog 57 #[s, .func (.func 58) #[] #[.pointer (some ⟨p, 0, none⟩)]] w fun e w' => e = .returned (.int .i64 (idxL I (fun x => x.id == t))) ∧ Below w.heap.size w w' := by
 obtain ⟨a, c, rfl, hl1, hl2, hl3, hop⟩ := hs.open
 have HOP := hid hop
 clear hop hs
 have HP := hid hp
 clear hp
 go_enter Tryz.func57, Tryz.ntmps57
 go_wp2
 go_loopw [8] (fun i wr => ∃ k : Nat, k ≤ I.length ∧ i = .int .i64 k ∧ (∀ y ∈ I.take k, (fun x => x.id == t) y = false) ∧ Below w.heap.size w wr) (fun i _ => I.length - (intOf i).toNat)
 case atStart => exact ⟨0, Nat.zero_le _, rfl, by simp, Below.refl _ _⟩
 case round =>
  obtain ⟨k, hk, rfl, htk, hB⟩ := hrel
  have HT := hid htk
  clear htk
  have hsz := hB.size
  by_cases hlt : k < I.length
  ·obtain ⟨b1, o1, rfl, hb1, hr1⟩ := HOP.out (by omega)
   obtain ⟨x, hx⟩ := get_lt hlt
   obtain ⟨g0, g1, g2, g3, g4, g5, g6, g7⟩ := rowK (hr1.below hB hb1) hx
   have HX := hid hx
   have HB := hid hB
   have hkL : (k : Int) < (I.length : Int) := by omega
   obtain ⟨q, hq⟩ : ∃ q, (x.id == t) = q := ⟨_, rfl⟩
   have HC := find1_any x p t wr (cell_below HP.out hB)
   rw [hq] at HC
   have HC := hid HC
   have HQ := hid hq
   clear hx hB hq
   go_wp2_with fail
   refine HC.out.mono ?_
   rintro e w2 ⟨rfl, hb⟩
   have HB2 := hid (HB.out.trans (hb.mono hsz))
   clear hb
   cases q with
   | true =>
    go_wp2
    go_ret
    exact ⟨by rw [idxL_at HX.out HQ.out HT.out]; rfl, HB2.out⟩
   | false =>
    go_wp2
    go_roundw
    case rel => exact ⟨k + 1, by omega, by go_num, idxL_next HX.out HT.out HQ.out, HB2.out⟩
    case measure => simp [intOf]; omega
  ·obtain rfl : k = I.length := by omega
   go_wp2
   go_ret
   exact ⟨by rw [idxL_no (fun y hy => HT.out y (by rw [List.take_length]; exact hy))]; rfl, hB⟩
set_option maxHeartbeats 1000000 in
set_option maxRecDepth 100000 in
theorem indexG_any (s : Value) (I : List KeptV) (p : Nat) (t : Int) (w : World) (hs : RowOf 8 encKp w s I) (hL : I.length ≤ 1000000) (hp : w.cell? ⟨p, 0, none⟩ = some (.int .i64 t)) :
  Calls Tryz.prog 57 #[s, .func (.func 101) #[] #[.pointer (some ⟨p, 0, none⟩)]] w fun e w' => e = .returned (.int .i64 (idxL I (fun x => decide (t < x.id)))) ∧ Below w.heap.size w w' := by
 obtain ⟨a, c, rfl, hl1, hl2, hl3, hop⟩ := hs.open
 have HOP := hid hop
 clear hop hs
 have HP := hid hp
 clear hp
 go_enter Tryz.func57, Tryz.ntmps57
 go_wp2
 go_loopw [8] (fun i wr => ∃ k : Nat, k ≤ I.length ∧ i = .int .i64 k ∧ (∀ y ∈ I.take k, (fun x => decide (t < x.id)) y = false) ∧ Below w.heap.size w wr) (fun i _ => I.length - (intOf i).toNat)
 case atStart => exact ⟨0, Nat.zero_le _, rfl, by simp, Below.refl _ _⟩
 case round =>
  obtain ⟨k, hk, rfl, htk, hB⟩ := hrel
  have HT := hid htk
  clear htk
  have hsz := hB.size
  by_cases hlt : k < I.length
  ·obtain ⟨b1, o1, rfl, hb1, hr1⟩ := HOP.out (by omega)
   obtain ⟨x, hx⟩ := get_lt hlt
   obtain ⟨g0, g1, g2, g3, g4, g5, g6, g7⟩ := rowK (hr1.below hB hb1) hx
   have HX := hid hx
   have HB := hid hB
   have hkL : (k : Int) < (I.length : Int) := by omega
   obtain ⟨q, hq⟩ : ∃ q, (decide (t < x.id)) = q := ⟨_, rfl⟩
   have HC := keep1_any x p t wr (cell_below HP.out hB)
   rw [hq] at HC
   have HC := hid HC
   have HQ := hid hq
   clear hx hB hq
   go_wp2_with fail
   refine HC.out.mono ?_
   rintro e w2 ⟨rfl, hb⟩
   have HB2 := hid (HB.out.trans (hb.mono hsz))
   clear hb
   cases q with
   | true =>
    go_wp2
    go_ret
    exact ⟨by rw [idxL_at HX.out HQ.out HT.out]; rfl, HB2.out⟩
   | false =>
    go_wp2
    go_roundw
    case rel => exact ⟨k + 1, by omega, by go_num, idxL_next HX.out HT.out HQ.out, HB2.out⟩
    case measure => simp [intOf]; omega
  ·obtain rfl : k = I.length := by omega
   go_wp2
   go_ret
   exact ⟨by rw [idxL_no (fun y hy => HT.out y (by rw [List.take_length]; exact hy))]; rfl, hB⟩
set_option maxHeartbeats 1000000 in
set_option maxRecDepth 100000 in
theorem indexI_any (s : Value) (I : List IntentV) (p : Nat) (t : Int) (w : World) (hs : RowOf 4 encIn w s I) (hL : I.length ≤ 1000000) (hp : w.cell? ⟨p, 0, none⟩ = some (.int .i64 t)) :
  Calls Tryz.prog 55 #[s, .func (.func 56) #[] #[.pointer (some ⟨p, 0, none⟩)]] w fun e w' => e = .returned (.int .i64 (idxL I (fun x => x.token == t))) ∧ Below w.heap.size w w' := by
 obtain ⟨a, c, rfl, hl1, hl2, hl3, hop⟩ := hs.open
 have HOP := hid hop
 clear hop hs
 have HP := hid hp
 clear hp
 go_enter Tryz.func55, Tryz.ntmps55
 go_wp2
 go_loopw [8] (fun i wr => ∃ k : Nat, k ≤ I.length ∧ i = .int .i64 k ∧ (∀ y ∈ I.take k, (fun x => x.token == t) y = false) ∧ Below w.heap.size w wr) (fun i _ => I.length - (intOf i).toNat)
 case atStart => exact ⟨0, Nat.zero_le _, rfl, by simp, Below.refl _ _⟩
 case round =>
  obtain ⟨k, hk, rfl, htk, hB⟩ := hrel
  have HT := hid htk
  clear htk
  have hsz := hB.size
  by_cases hlt : k < I.length
  ·obtain ⟨b1, o1, rfl, hb1, hr1⟩ := HOP.out (by omega)
   obtain ⟨x, hx⟩ := get_lt hlt
   obtain ⟨g0, g1, g2, g3⟩ := rowI (hr1.below hB hb1) hx
   have HX := hid hx
   have HB := hid hB
   have hkL : (k : Int) < (I.length : Int) := by omega
   obtain ⟨q, hq⟩ : ∃ q, (x.token == t) = q := ⟨_, rfl⟩
   have HC := token1_any x p t wr (cell_below HP.out hB)
   rw [hq] at HC
   have HC := hid HC
   have HQ := hid hq
   clear hx hB hq
   go_wp2_with fail
   refine HC.out.mono ?_
   rintro e w2 ⟨rfl, hb⟩
   have HB2 := hid (HB.out.trans (hb.mono hsz))
   clear hb
   cases q with
   | true =>
    go_wp2
    go_ret
    exact ⟨by rw [idxL_at HX.out HQ.out HT.out]; rfl, HB2.out⟩
   | false =>
    go_wp2
    go_roundw
    case rel => exact ⟨k + 1, by omega, by go_num, idxL_next HX.out HT.out HQ.out, HB2.out⟩
    case measure => simp [intOf]; omega
  ·obtain rfl : k = I.length := by omega
   go_wp2
   go_ret
   exact ⟨by rw [idxL_no (fun y hy => HT.out y (by rw [List.take_length]; exact hy))]; rfl, hB⟩
set_option maxHeartbeats 1000000 in
set_option maxRecDepth 100000 in
theorem indexB_any (s : Value) (I : List Int) (w : World) (hs : RowOf 1 encI w s I) (hL : I.length ≤ 1000000) :
  Calls Tryz.prog 92 #[s, .func (.func 70) #[] #[]] w fun e w' => e = .returned (.int .i64 (idxL I (fun x => badN x))) ∧ Below w.heap.size w w' := by
 obtain ⟨a, c, rfl, hl1, hl2, hl3, hop⟩ := hs.open
 have HOP := hid hop
 clear hop hs
 go_enter Tryz.func92, Tryz.ntmps92
 go_wp2
 go_loopw [8] (fun i wr => ∃ k : Nat, k ≤ I.length ∧ i = .int .i64 k ∧ (∀ y ∈ I.take k, (fun x => badN x) y = false) ∧ Below w.heap.size w wr) (fun i _ => I.length - (intOf i).toNat)
 case atStart => exact ⟨0, Nat.zero_le _, rfl, by simp, Below.refl _ _⟩
 case round =>
  obtain ⟨k, hk, rfl, htk, hB⟩ := hrel
  have HT := hid htk
  clear htk
  have hsz := hB.size
  by_cases hlt : k < I.length
  ·obtain ⟨b1, o1, rfl, hb1, hr1⟩ := HOP.out (by omega)
   obtain ⟨x, hx⟩ := get_lt hlt
   have g0 := rowN1 (hr1.below hB hb1) hx
   have HX := hid hx
   have HB := hid hB
   have hkL : (k : Int) < (I.length : Int) := by omega
   obtain ⟨q, hq⟩ : ∃ q, (badN x) = q := ⟨_, rfl⟩
   have HC := bad1_any x wr
   rw [hq] at HC
   have HC := hid HC
   have HQ := hid hq
   clear hx hB hq
   go_wp2_with fail
   refine HC.out.mono ?_
   rintro e w2 ⟨rfl, hb⟩
   have HB2 := hid (HB.out.trans (hb.mono hsz))
   clear hb
   cases q with
   | true =>
    go_wp2
    go_ret
    exact ⟨by rw [idxL_at HX.out HQ.out HT.out]; rfl, HB2.out⟩
   | false =>
    go_wp2
    go_roundw
    case rel => exact ⟨k + 1, by omega, by go_num, idxL_next HX.out HT.out HQ.out, HB2.out⟩
    case measure => simp [intOf]; omega
  ·obtain rfl : k = I.length := by omega
   go_wp2
   go_ret
   exact ⟨by rw [idxL_no (fun y hy => HT.out y (by rw [List.take_length]; exact hy))]; rfl, hB⟩
set_option maxHeartbeats 1000000 in
theorem bfind_any (cs : Array Value) (iv kv : Value) (hcs : BC cs iv kv) (I : List KeptV) (t : Int) (w : World) (hI : RowOf 8 encKp w kv I) (hl : I.length ≤ 1000) :
  Calls Tryz.prog 43 #[.agg cs, .int .i64 t] w fun e w' => e = .returned (.int .i64 (idxL I (fun x => x.id == t))) ∧ Below w.heap.size w w' := by
 have hmf := mkfunc
 have Z0 : Below w.heap.size w ((w.alloc (.cells cs 33)).alloc (.cells #[.int .i64 t] 3)) := ((Below.refl _ _).alloc (Nat.le_refl _) _).alloc (by simp) _
 have hg := (BB.new w cs).below ((Below.refl _ _).alloc (Nat.le_refl _) (.cells #[.int .i64 t] 3)) (by simp)
 obtain ⟨g1, g2, g3, g4⟩ := hg.two hcs
 have HC := hid (indexK_any kv I (w.heap.size + 1) t _ (hI.below Z0) (by omega) (blk_cell (heap_new2 w (.cells cs 33) (.cells #[.int .i64 t] 3)) 0))
 have HZ := hid Z0
 obtain ⟨e1, e2, e3⟩ := hcs
 clear Z0 hg hI
 go_enter Tryz.func43, Tryz.ntmps43
 go_wp2_with fail
 refine HC.out.mono ?_
 rintro e w1 ⟨rfl, hb⟩
 go_wp2
 go_ret
 exact ⟨rfl, HZ.out.trans (hb.mono HZ.out.size)⟩
set_option maxHeartbeats 1000000 in
theorem btoken_any (cs : Array Value) (iv kv : Value) (hcs : BC cs iv kv) (I : List IntentV) (t : Int) (w : World) (hI : RowOf 4 encIn w iv I) (hl : I.length ≤ 1000) :
  Calls Tryz.prog 42 #[.agg cs, .int .i64 t] w fun e w' => e = .returned (.int .i64 (idxL I (fun x => x.token == t))) ∧ Below w.heap.size w w' := by
 have hmf := mkfunc
 have Z0 : Below w.heap.size w ((w.alloc (.cells cs 33)).alloc (.cells #[.int .i64 t] 3)) := ((Below.refl _ _).alloc (Nat.le_refl _) _).alloc (by simp) _
 have hg := (BB.new w cs).below ((Below.refl _ _).alloc (Nat.le_refl _) (.cells #[.int .i64 t] 3)) (by simp)
 obtain ⟨g1, g2, g3, g4⟩ := hg.two hcs
 have HC := hid (indexI_any iv I (w.heap.size + 1) t _ (hI.below Z0) (by omega) (blk_cell (heap_new2 w (.cells cs 33) (.cells #[.int .i64 t] 3)) 0))
 have HZ := hid Z0
 obtain ⟨e1, e2, e3⟩ := hcs
 clear Z0 hg hI
 go_enter Tryz.func42, Tryz.ntmps42
 go_wp2_with fail
 refine HC.out.mono ?_
 rintro e w1 ⟨rfl, hb⟩
 go_wp2
 go_ret
 exact ⟨rfl, HZ.out.trans (hb.mono HZ.out.size)⟩
/-- Whether a record's numbers hold one that may not be. -/
theorem containsB_any (s : Value) (L : List Int) (w : World) (hs : RowOf 1 encI w s L) (hL : L.length ≤ 1000000) :
  Calls Tryz.prog 69 #[s, .func (.func 70) #[] #[]] w fun e w' => e = .returned (.bool (L.any badN)) ∧ Below w.heap.size w w' := by
 have HC := hid (indexB_any s L w hs hL)
 obtain ⟨q, hq⟩ : ∃ q, L.any badN = q := ⟨_, rfl⟩
 rw [hq]
 have HQ := hid (show (if (0 : Int) ≤ idxL L (fun x => badN x) then true else false) = q by
  rw [← hq]
  rcases idxL_cases L (fun x => badN x) with ⟨h1, h2⟩ | ⟨k, x, h1, h2, h3, _⟩
  ·rw [h1]
   have : L.any badN = false := by rw [List.any_eq_false]; intro y hy; simp [h2 y hy]
   simp [this]
  ·rw [h1]
   have : L.any badN = true := List.any_eq_true.2 ⟨x, mem_get h2, h3⟩
   simp [this])
 clear hs hq
 go_enter Tryz.func69, Tryz.ntmps69
 go_wp2_with fail
 refine HC.out.mono ?_
 rintro e w1 ⟨rfl, hb⟩
 have HB := hid hb
 clear hb
 go_wp2
 go_ret
 exact ⟨ret_bool (by rw [← HQ.out]; by_cases h : (0 : Int) ≤ idxL L (fun x => badN x) <;> simp [h]), HB.out⟩
end Go.Proofs.YtgcajfglidflnaaGreatDoor

/- brain.legal: whether a change of phases may be. -/
namespace Go.Proofs.YtgcajfglidflnaaGreatDoor
open Go.RowKit Go.Shelf

theorem row8 {w : World} {b off : Nat} {l : List Int} (h : RowAt 1 enc8 w b off l) {i : Nat} {x : Int} (hi : l[i]? = some x) : w.cell? ⟨b, off + i, none⟩ = some (.int .u8 x) := by
 have := h i x hi 0 _ rfl
 simpa using this
set_option maxHeartbeats 1000000 in
set_option maxRecDepth 100000 in
theorem index8_any (s : Value) (I : List Int) (v : Int) (w : World) (hs : RowOf 1 enc8 w s I) (hL : I.length ≤ 1000000) :
  Calls Tryz.prog 103 #[s, .int .u8 v] w fun e w' => e = .returned (.int .i64 (idxL I (fun x => v == x))) ∧ Below w.heap.size w w' := by
 obtain ⟨a, c, rfl, hl1, hl2, hl3, hop⟩ := hs.open
 have HOP := hid hop
 clear hop hs
 go_enter Tryz.func103, Tryz.ntmps103
 go_wp2
 go_loopw [8] (fun i wr => ∃ k : Nat, k ≤ I.length ∧ i = .int .i64 k ∧ (∀ y ∈ I.take k, (fun x => v == x) y = false) ∧ Below w.heap.size w wr) (fun i _ => I.length - (intOf i).toNat)
 case atStart => exact ⟨0, Nat.zero_le _, rfl, by simp, Below.refl _ _⟩
 case round =>
  obtain ⟨k, hk, rfl, htk, hB⟩ := hrel
  have HT := hid htk
  clear htk
  have hsz := hB.size
  by_cases hlt : k < I.length
  ·obtain ⟨b1, o1, rfl, hb1, hr1⟩ := HOP.out (by omega)
   obtain ⟨x, hx⟩ := get_lt hlt
   have g0 := row8 (hr1.below hB hb1) hx
   have hb1r : b1 < wr.heap.size := by omega
   have HX := hid hx
   have HB := hid hB
   have hkL : (k : Int) < (I.length : Int) := by omega
   obtain ⟨q, hq⟩ : ∃ q, (v == x) = q := ⟨_, rfl⟩
   have HQ := hid hq
   clear hx hB
   cases q with
   | true =>
    go_wp2
    go_ret
    exact ⟨by rw [idxL_at HX.out HQ.out HT.out]; rfl, HB.out⟩
   | false =>
    go_wp2
    go_roundw
    case rel => exact ⟨k + 1, by omega, by go_num, idxL_next HX.out HT.out HQ.out, HB.out⟩
    case measure => simp [intOf]; omega
  ·obtain rfl : k = I.length := by omega
   go_wp2
   go_ret
   exact ⟨by rw [idxL_no (fun y hy => HT.out y (by rw [List.take_length]; exact hy))]; rfl, hB⟩
theorem contains8_any (s : Value) (I : List Int) (v : Int) (q : Bool) (hq : I.contains v = q) (w : World) (hs : RowOf 1 enc8 w s I) (hL : I.length ≤ 1000000) :
  Calls Tryz.prog 97 #[s, .int .u8 v] w fun e w' => e = .returned (.bool q) ∧ Below w.heap.size w w' := by
 have HC := hid (index8_any s I v w hs hL)
 have HQ := hid (show (if (0 : Int) ≤ idxL I (fun x => v == x) then true else false) = q by
  rw [← hq]
  rcases idxL_cases I (fun x => v == x) with ⟨h1, h2⟩ | ⟨k, x, h1, h2, h3, _⟩
  ·rw [h1]
   have : I.contains v = false := by
    apply Bool.eq_false_iff.2
    intro hc
    have := h2 v (by simpa using hc)
    simp at this
   rw [this]; rfl
  ·rw [h1]
   have hvx : v = x := by simpa using h3
   have : I.contains v = true := by rw [hvx]; simpa using mem_get h2
   rw [this]
   simp)
 clear hs hq
 go_enter Tryz.func97, Tryz.ntmps97
 go_wp2_with fail
 refine HC.out.mono ?_
 rintro e w1 ⟨rfl, hb⟩
 have HB := hid hb
 clear hb
 go_wp2
 go_ret
 exact ⟨ret_bool (by rw [← HQ.out]; by_cases h : (0 : Int) ≤ idxL I (fun x => v == x) <;> simp [h]), HB.out⟩

/-- Whether a change of phases may be. -/
def legalB (p t : Int) : Bool := decide (p < 11) && (decide (t < 11) && (chL.getD p.toNat []).contains t)
set_option maxHeartbeats 1000000 in
theorem legal_any (p t : Int) (hp : in8 p) (ht : 0 ≤ t) (w : World) (hC : Changes w) :
  Calls Tryz.prog 79 #[.int .u8 p, .int .i64 t] w fun e w' => e = .returned (.bool (legalB p t)) ∧ Below w.heap.size w w' := by
 unfold in8 at hp
 by_cases h1 : p < 11
 ·by_cases h2 : t < 11
  ·obtain ⟨l, hl⟩ := get_lt (l := chL) (k := p.toNat) (by simp [chL]; omega)
   obtain ⟨v, hv, hr⟩ := hC p.toNat l hl
   obtain ⟨a, c, rfl, _, _, _, _⟩ := hr.open
   have hll : l.length ≤ 1000000 := by
    have hm := mem_get hl
    simp only [chL, List.mem_cons, List.mem_nil_iff, or_false] at hm
    rcases hm with rfl | rfl | rfl | rfl | rfl | rfl | rfl | rfl | rfl | rfl | rfl <;> simp
   obtain ⟨q, hq⟩ : ∃ q, l.contains t = q := ⟨_, rfl⟩
   have HC := hid (contains8_any _ l t q hq w hr hll)
   have e : legalB p t = q := by unfold legalB; rw [List.getD_eq_getElem?_getD, hl]; simp [h1, h2]; simpa using hq
   rw [e]
   have hpn : ((p.toNat : Nat) : Int) = p := by omega
   obtain ⟨n, hn⟩ : ∃ n, p.toNat = n := ⟨_, rfl⟩
   rw [hn] at hpn hv
   subst hpn
   have hlt := lt_of_cell hv
   dsimp only at hlt
   clear hr hq e hC hl hn
   go_enter Tryz.func79, Tryz.ntmps79
   go_wp2_with fail
   refine HC.out.mono ?_
   rintro e w1 ⟨rfl, hb⟩
   have HB := hid hb
   clear hb
   go_wp2
   go_ret
   exact ⟨rfl, HB.out⟩
  ·have e : legalB p t = false := by unfold legalB; simp [h2]
   rw [e]
   go_enter Tryz.func79, Tryz.ntmps79
   go_wp2
   go_ret
   exact ⟨rfl, Below.refl _ _⟩
 ·have e : legalB p t = false := by unfold legalB; simp [h1]
  rw [e]
  go_enter Tryz.func79, Tryz.ntmps79
  go_wp2
  go_ret
  exact ⟨rfl, Below.refl _ _⟩
end Go.Proofs.YtgcajfglidflnaaGreatDoor

/- Deeds that change one that is kept, in place. -/
namespace Go.Proofs.YtgcajfglidflnaaGreatDoor
open Go.RowKit Go.Shelf

/-- A brain whose Kept at a place is another one. -/
def setK (B : BrainV) (i : Nat) (x : KeptV) : BrainV := { B with K := B.K.set i x }
theorem flat_set {α : Type} {k : Nat} {enc : α → List Value} (hk : ∀ x, (enc x).length = k) {j : Nat} (hj : j < k) {u : Value} {x x' : α} (he : (enc x).set j u = enc x') : ∀ (l : List α) (i : Nat) (y : α), l[i]? = some y → y = x →
  (l.flatMap enc).set (i * k + j) u = (l.set i x').flatMap enc
 | [], i, y, h, _ => by simp at h
 | z :: l, 0, y, h, hy => by
  simp at h
  subst h
  subst hy
  simp only [List.flatMap_cons, List.set_cons_zero]
  rw [Nat.zero_mul, Nat.zero_add, List.set_append_left _ _ (by rw [hk]; exact hj), he]
 | z :: l, i + 1, y, h, hy => by
  simp only [List.getElem?_cons_succ] at h
  simp only [List.flatMap_cons, List.set_cons_succ]
  rw [List.set_append_right _ _ (by rw [hk, Nat.add_mul]; omega), hk, show (i + 1) * k + j - k = i * k + j by rw [Nat.add_mul]; omega, flat_set hk hj he l i y h hy]
/-- One cell of a slice's thing is written. -/
theorem Owns.cell {α : Type} {k : Nat} {e : TypeId} {enc : α → List Value} {W : World} {base g n c : Nat} {l : List α} (hk : ∀ x, (enc x).length = k) (h : Owns k e enc W base (.slice (some ⟨g, 0, none⟩) n c) l)
  {i : Nat} {x x' : α} (hx : l[i]? = some x) (j : Nat) (hj : j < k) (u : Value) (he : (enc x).set j u = enc x') : Owns k e enc (W.setCell ⟨g, i * k + j, none⟩ u) base (.slice (some ⟨g, 0, none⟩) n c) (l.set i x') := by
 have hi := lt_get hx
 obtain ⟨cur, h1, h2, h3, h4, h5, h6, h7⟩ := Owns.blk h
 have hic : i * k + j < c * k := by
  have : (i + 1) * k ≤ c * k := Nat.mul_le_mul_right k (by omega)
  rw [Nat.add_mul, Nat.one_mul] at this
  omega
 refine Owns.mk hk (blk_set h1 (i * k + j) u) (by simpa using h2) h3 h4 h5 (by simpa using h6) ?_
 rw [Array.toList_setIfInBounds, List.take_set, h7]
 exact flat_set hk hj he l i x hx rfl

/-- One cell of one that is kept is written. -/
theorem BO.kcell {base : World} {b : Nat} {B : BrainV} {mv iv : Value} {W : World} {g n c : Nat} (h : BO base b B mv iv (.slice (some ⟨g, 0, none⟩) n c) W) {i : Nat} {x x' : KeptV} (hx : B.K[i]? = some x) (j : Nat) (hj : j < 8) (u : Value) (he : (encKp x).set j u = encKp x') :
  BO base b (setK B i x') mv iv (.slice (some ⟨g, 0, none⟩) n c) (W.setCell ⟨g, i * 8 + j, none⟩ u) ∧ (setK B i x').K[i]? = some x' := by
 obtain ⟨cur, h1, h2, h3, h4, h5, h6, h7⟩ := Owns.blk h.rk
 have hne : b ≠ g := by rintro rfl; have := h.box; unfold BB at this; rw [h1] at this; cases this
 refine ⟨⟨blk_other h.box (p := ⟨g, _, none⟩) hne _, h.hb, h.rm.kept (KeptT.set (p := ⟨g, _, none⟩) h1 (by decide) u), owns_at h.ri h1 (by decide) _ u, Owns.cell encKp_len h.rk hx j hj u he, h.bel.setCell (p := ⟨g, _, none⟩) h5 _⟩, ?_⟩
 show (B.K.set i x')[i]? = some x'
 rw [List.getElem?_set_self (lt_get hx)]
theorem KeepsX.kset {b : Nat} {W V : World} {g : Nat} {cur : Array Value} (h : KeepsX b W V) (hg : V.heap[g]? = some (.cells cur 51)) (o : Nat) (u : Value) : KeepsX b W (V.setCell ⟨g, o, none⟩ u) := by
 refine ⟨by simpa [World.setCell] using h.size, fun k c t hk h1 h2 h3 => ?_, keeps_set h.others _ _⟩
 refine blk_other (h.block k c t hk h1 h2 h3) (p := ⟨g, o, none⟩) (fun e => ?_) u
 have := h.block k c t hk h1 h2 h3
 rw [show k = g from e, hg] at this
 cases this
 exact h3 rfl
theorem setK_twice (B : BrainV) (i : Nat) (x y : KeptV) : setK (setK B i x) i y = setK B i y := by
 unfold setK
 simp

def phaseB (B : BrainV) (i : Nat) (x : KeptV) (t s : Int) : BrainV := if legalB x.phase t = true then setK B i { x with phase := t, since := s, complete := false } else B
def guardB (B : BrainV) (i : Nat) (x : KeptV) (t : Int) : BrainV := if t < 2 then setK B i { x with guarded := t == 1 } else B
def completeB (B : BrainV) (i : Nat) (x : KeptV) : BrainV := setK B i { x with complete := x.complete || (x.phase == 1 || x.phase == 7) }
section
variable {base : World} {b : Nat} {B : BrainV} {mv iv kv : Value} {W : World}
theorem BO.kopen (h : BO base b B mv iv kv W) {i : Nat} {x : KeptV} (hx : B.K[i]? = some x) : ∃ g c, kv = .slice (some ⟨g, 0, none⟩) B.K.length c ∧ g < W.heap.size ∧ RowAt 8 encKp W g 0 B.K ∧ (∀ j, W.frozen? ⟨g, j, none⟩ = false) ∧ B.K.length ≤ 9223372036854775807 ∧ ∃ cur, W.heap[g]? = some (.cells cur 51) := by
 have hlt := lt_get hx
 have hr := Owns.row h.rk encKp_len (by decide)
 rcases Owns.form h.rk with ⟨rfl, h0⟩ | ⟨g, c, rfl, hg, hl⟩
 ·rw [h0] at hlt; simp at hlt
 ·obtain ⟨cur, h1, _, _, _, _, _, _⟩ := Owns.blk h.rk
  obtain ⟨a', c', he, hb1, _, _, hop⟩ := hr.open
  simp only [Value.slice.injEq] at he
  obtain ⟨rfl, -, rfl⟩ := he
  obtain ⟨b1, o1, e1, _, hra⟩ := hop (by omega)
  cases e1
  exact ⟨g, c, rfl, hl, hra, blk_free h1, hb1, cur, h1⟩
set_option maxRecDepth 100000 in
set_option maxHeartbeats 2000000 in
theorem d5_any (s : Value) (h : BO base b B mv iv kv W) (i : Nat) (x : KeptV) (hx : B.K[i]? = some x) : Calls Tryz.prog 83 #[.pointer (some ⟨b, 0, none⟩), .int .i64 i, s] W fun e W' => DeedEnd base b W (completeB B i x) e W' := by
 obtain ⟨g, c, rfl, hg, hra, hfz, hl6, cur, hcur⟩ := h.kopen hx
 have c19 := h.cell 19 (.slice (some ⟨g, 0, none⟩) B.K.length c) rfl
 obtain ⟨g0, g1, g2, g3, g4, g5, g6, g7⟩ := rowK hra hx
 simp only [Nat.zero_add] at g0 g1 g2 g3 g4 g5 g6 g7
 have hkl := lt_get hx
 have hiL : (i : Int) < (B.K.length : Int) := by omega
 have hlt := h.lt
 have H := hid h
 have HX := hid hx
 have HC := hid hcur
 clear h hx hra hcur
 unfold completeB
 obtain ⟨bc, hbc⟩ : ∃ q, x.complete = q := ⟨_, rfl⟩
 obtain ⟨b1, hb1⟩ : ∃ q, (x.phase == 1) = q := ⟨_, rfl⟩
 obtain ⟨b7, hb7⟩ : ∃ q, (x.phase == 7) = q := ⟨_, rfl⟩
 have HE := hid (show ∀ v, v = (bc || (b1 || b7)) → (encKp x).set 7 (.bool v) = encKp { x with complete := x.complete || (x.phase == 1 || x.phase == 7) } from fun v hv => by rw [hv, hbc, hb1, hb7]; rfl)
 rw [hbc] at g7
 clear hbc
 cases bc <;> cases b1 <;> cases b7 <;>
 ·go_enter Tryz.func83, Tryz.ntmps83
  go_wp2
  go_end0
  exact ⟨rfl, ⟨mv, iv, _, (H.out.kcell HX.out 7 (by decide) _ (HE.out _ rfl)).1⟩, (KeepsX.refl _ _).kset HC.out _ _⟩
set_option maxRecDepth 100000 in
set_option maxHeartbeats 2000000 in
theorem d4_any (s : Value) (L : List Int) (hs : RowOf 1 encI base s L) (hL : L.length = 2) (h : BO base b B mv iv kv W) (i : Nat) (x : KeptV) (hx : B.K[i]? = some x) : Calls Tryz.prog 82 #[.pointer (some ⟨b, 0, none⟩), .int .i64 i, s] W fun e W' => DeedEnd base b W (guardB B i x (L.getD 1 0)) e W' := by
 obtain ⟨sa, sc, rfl, hs1, hs2, hs3, hop⟩ := hs.open
 obtain ⟨b1, o1, rfl, hb1, hr1⟩ := hop (by omega)
 obtain ⟨x1, hx1⟩ := get_lt (l := L) (k := 1) (by omega)
 have q1 := rowN1 (hr1.below h.bel hb1) hx1
 have e1 : L.getD 1 0 = x1 := by rw [List.getD_eq_getElem?_getD, hx1]; rfl
 have hbw : b1 < W.heap.size := Nat.lt_of_lt_of_le hb1 h.bel.size
 have hLI : (L.length : Int) = 2 := by omega
 rw [e1]
 obtain ⟨g, c, rfl, hg, hra, hfz, hl6, cur, hcur⟩ := h.kopen hx
 have c19 := h.cell 19 (.slice (some ⟨g, 0, none⟩) B.K.length c) rfl
 obtain ⟨g0, g1, g2, g3, g4, g5, g6, g7⟩ := rowK hra hx
 simp only [Nat.zero_add] at g0 g1 g2 g3 g4 g5 g6 g7
 have hkl := lt_get hx
 have hiL : (i : Int) < (B.K.length : Int) := by omega
 have hlt := h.lt
 have H := hid h
 have HX := hid hx
 have HC := hid hcur
 clear h hx hra hcur hs hop hr1 hx1 e1
 unfold guardB
 by_cases hq : x1 < 2
 ·rw [if_pos hq]
  go_enter Tryz.func82, Tryz.ntmps82
  go_wp2
  go_region
  all_goals
   go_wp2
   go_end0
   exact ⟨rfl, ⟨mv, iv, _, BO.drew1 (H.out.kcell (x' := { x with guarded := x1 == 1 }) HX.out 6 (by decide) (.bool (x1 == 1)) rfl).1⟩, KeepsX.drew1 ((KeepsX.refl _ _).kset HC.out _ _)⟩
 ·rw [if_neg hq]
  go_enter Tryz.func82, Tryz.ntmps82
  go_wp2
  go_end0
  exact ⟨rfl, ⟨mv, iv, _, H.out⟩, KeepsX.refl _ _⟩
set_option maxRecDepth 100000 in
set_option maxHeartbeats 4000000 in
theorem d2_any (s : Value) (L : List Int) (hs : RowOf 1 encI base s L) (hL : L.length = 3) (hn : ∀ y ∈ L, badN y = false) (hC : Changes base) (h : BO base b B mv iv kv W) (i : Nat) (x : KeptV) (hx : B.K[i]? = some x) (hph : in8 x.phase) :
  Calls Tryz.prog 78 #[.pointer (some ⟨b, 0, none⟩), .int .i64 i, s] W fun e W' => DeedEnd base b W (phaseB B i x (L.getD 1 0) (L.getD 2 0)) e W' := by
 obtain ⟨sa, sc, rfl, hs1, hs2, hs3, hop⟩ := hs.open
 obtain ⟨b1, o1, rfl, hb1, hr1⟩ := hop (by omega)
 obtain ⟨x1, hx1⟩ := get_lt (l := L) (k := 1) (by omega)
 obtain ⟨x2, hx2⟩ := get_lt (l := L) (k := 2) (by omega)
 have q1 := rowN1 (hr1.below h.bel hb1) hx1
 have q2 := rowN1 (hr1.below h.bel hb1) hx2
 have e1 : L.getD 1 0 = x1 := by rw [List.getD_eq_getElem?_getD, hx1]; rfl
 have e2 : L.getD 2 0 = x2 := by rw [List.getD_eq_getElem?_getD, hx2]; rfl
 have hx10 : 0 ≤ x1 := by have := hn x1 (mem_get hx1); simp [badN] at this; omega
 have hbw : b1 < W.heap.size := Nat.lt_of_lt_of_le hb1 h.bel.size
 have hLI : (L.length : Int) = 3 := by omega
 rw [e1, e2]
 obtain ⟨g, c, rfl, hg, hra, hfz, hl6, cur, hcur⟩ := h.kopen hx
 have c19 := h.cell 19 (.slice (some ⟨g, 0, none⟩) B.K.length c) rfl
 obtain ⟨g0, g1, g2, g3, g4, g5, g6, g7⟩ := rowK hra hx
 simp only [Nat.zero_add] at g0 g1 g2 g3 g4 g5 g6 g7
 have hkl := lt_get hx
 have hiL : (i : Int) < (B.K.length : Int) := by omega
 have hlt := h.lt
 obtain ⟨q, hq⟩ : ∃ q, legalB x.phase x1 = q := ⟨_, rfl⟩
 have HLG := hid (fun V (hV : Below W.heap.size W V) => legal_any x.phase x1 hph hx10 V (hC.below (h.bel.trans (hV.mono h.bel.size))))
 rw [hq] at HLG
 have HQ := hid hq
 have H := hid h
 have HX := hid hx
 have HC := hid hcur
 clear h hx hra hcur hs hop hr1 hx1 hx2 e1 e2 hn hC hq
 obtain ⟨R, hR⟩ : ∃ R, phaseB B i x x1 x2 = R := ⟨_, rfl⟩
 rw [hR]
 have HR := hid hR
 clear hR
 go_enter Tryz.func78, Tryz.ntmps78
 go_wp2
 have k4 := fun d os => cell_regrown g4 d os
 have kq := fun d os => cell_regrown q1 d os
 have HCALL := hid (fun d os => Calls.regrown_of (d := d) (os := os) (w := W) (HLG.out _ (below_regrown W d os)))
 refine wp_region_quiet_below (by kernel_rfl) (by kernel_rfl) ?_
 repeat (quiet_step (exact HCALL.out _ _))
 refine wpQuiet_nil ?_
 intro _ hw'
 obtain ⟨⟨dq, osq⟩, hw''⟩ := hw'
 subst hw''
 have hbq := below_regrown W dq osq
 obtain ⟨V, hV⟩ : ∃ V, V = Sort.grow (redrawn W dq) osq := ⟨_, rfl⟩
 rw [← hV] at hbq ⊢
 clear hV k4 kq
 cases q with
 | false =>
  obtain rfl : B = R := by rw [← HR.out]; unfold phaseB; rw [HQ.out]; rfl
  have HBQ := hid hbq
  clear hbq
  go_wp2
  go_end0
  exact ⟨rfl, ⟨mv, iv, _, H.out.below HBQ.out⟩, KeepsX.below HBQ.out⟩
 | true =>
  have HRR := hid (show R = setK B i { x with phase := x1, since := x2, complete := false } by rw [← HR.out]; unfold phaseB; rw [HQ.out]; rfl)
  have hx11 : x1 < 11 := by have := HQ.out; unfold legalB at this; simp at this; omega
  have r4 := (hbq.cell (p := ⟨g, i * 8 + 4, none⟩) hg).trans g4
  have r5 := (hbq.cell (p := ⟨g, i * 8 + 5, none⟩) hg).trans g5
  have r7 := (hbq.cell (p := ⟨g, i * 8 + 7, none⟩) hg).trans g7
  have t4 := (hbq.frozen (p := ⟨g, i * 8 + 4, none⟩) hg).trans (hfz _)
  have t5 := (hbq.frozen (p := ⟨g, i * 8 + 5, none⟩) hg).trans (hfz _)
  have t7 := (hbq.frozen (p := ⟨g, i * 8 + 7, none⟩) hg).trans (hfz _)
  have s1 := (hbq.cell (p := ⟨b1, o1 + 1, none⟩) hbw).trans q1
  have s2 := (hbq.cell (p := ⟨b1, o1 + 2, none⟩) hbw).trans q2
  have u1 : g < V.heap.size := Nat.lt_of_lt_of_le hg hbq.size
  have u2 : b1 < V.heap.size := Nat.lt_of_lt_of_le hbw hbq.size
  have HV := hid (H.out.below hbq)
  have HCV := hid ((hbq.block _ hg).trans HC.out)
  have HBQ := hid hbq
  clear hbq g0 g1 g2 g3 g4 g5 g6 g7 q1 q2 c19 hfz hlt hbw hg
  go_wp2
  go_region
  all_goals
   go_wp2
   go_end0
   have k1 := HV.out.kcell (x' := { x with phase := x1 }) HX.out 4 (by decide) (.int .u8 x1) rfl
   have k2 := k1.1.kcell (x' := { x with phase := x1, since := x2 }) k1.2 5 (by decide) (.int .i64 x2) rfl
   have k3 := k2.1.kcell (x' := { x with phase := x1, since := x2, complete := false }) k2.2 7 (by decide) (.bool false) rfl
   rw [setK_twice, setK_twice] at k3
   have j1 := blk_set HCV.out (i * 8 + 4) (.int .u8 x1)
   have j2 := blk_set j1 (i * 8 + 5) (.int .i64 x2)
   exact ⟨rfl, ⟨mv, iv, _, BO.drew1 (by rw [HRR.out]; exact k3.1)⟩, KeepsX.drew1 ((((KeepsX.below HBQ.out).kset HCV.out _ _).kset j1 _ _).kset j2 _ _)⟩
end
end Go.Proofs.YtgcajfglidflnaaGreatDoor

/- slices.Delete of one thing out of a row of the call's own: Kept, Intents. Printed by gn_del13.py. -/

namespace Go.Proofs.YtgcajfglidflnaaGreatDoor
open Go.RowKit Go.Shelf

theorem grown_trans {a b c : World} {row : Option Nat} (h : a.grownBy b row) (k : b.grownBy c row) : a.grownBy c row :=
 ⟨k.os.trans h.os, k.tape.trans h.tape, k.output.trans h.output, Nat.le_trans h.size k.size, fun i hi hr => (k.block i (Nat.lt_of_lt_of_le hi h.size) hr).trans (h.block i hi hr)⟩
theorem run_clear_rows' {P : Program} (w : World) (t e : TypeId) (z : Value) (k : Nat) (ht : P.underlying t = some (.slice e)) (hv : ∀ w, (zeroValue e).run P w = .ok z w) (hz : z.cells.size = k) (h1 : ∀ u ∈ z.cells.toList, u.oneCell' = true) (b o n c : Nat)
  (hc : ∀ j, j < n * k → (w.cell? ⟨b, o + j, none⟩).isSome = true) (hf : ∀ j, j < n * k → w.frozen? ⟨b, o + j, none⟩ = false) :
  ∃ vs : List Value, (∀ ty, (Builtin.clear_ #[t] ty #[.slice (some ⟨b, o, none⟩) n c]).run P w = .ok (.tuple #[]) (w.setCells b o vs)) ∧ vs.length ≤ n * k := by
 obtain ⟨vs, h2, h3⟩ := run_clear_rows w t e 0 z k ht hv hz h1 b o n c hc hf
 exact ⟨vs, fun ty => h2, h3⟩

set_option maxHeartbeats 2000000 in
set_option maxRecDepth 100000 in
theorem deleteKp_any (g c base i : Nat) (l : List KeptV) (w : World) (hown : OwnK w base (.slice (some ⟨g, 0, none⟩) l.length c) l) (hi : i < l.length) (hl : l.length ≤ 100000) (hone : ∀ x ∈ l, ∀ u ∈ encKp x, u.oneCell' = true) :
  Calls Tryz.prog 81 #[.slice (some ⟨g, 0, none⟩) l.length c, .int .i64 (i : Int), .int .i64 ((i : Int) + 1)] w fun e w' => e = .returned (.slice (some ⟨g, 0, none⟩) (l.length - 1) c) ∧ OwnK w' base (.slice (some ⟨g, 0, none⟩) (l.length - 1) c) (l.eraseIdx i) ∧ w.grownBy w' (some g) := by
 obtain ⟨i0, hi0, hz0, hz1, hz2⟩ := info_parts infoKp
 have hcc := hown.cells.1
 have hcf := hown.cells.2.1
 have hnc := hown.cells.2.2.2.1
 have hcm := hown.cells.2.2.2.2
 unfold maxLen at hcm
 obtain ⟨n, hn⟩ : ∃ n, l.length = n := ⟨_, rfl⟩
 obtain ⟨m, hm⟩ : ∃ m, n - (i + 1) = m := ⟨_, rfl⟩
 obtain ⟨news, hnews⟩ : ∃ news, (l.drop (i + 1)).flatMap encKp = news := ⟨_, rfl⟩
 have hnl : news.length = m * 8 := by rw [← hnews, flat_len encKp_len, List.length_drop, hn, hm]
 rw [hn] at hown hi hl hnc ⊢
 have hrow : ∀ j u, news[j]? = some u → w.drew.cell? ⟨g, (i + 1) * 8 + j, none⟩ = some u := by
  intro j u hj
  obtain ⟨cur, h1, h2, h3, h4, h5, h6, h7⟩ := hown.blk
  have hlt : j < m * 8 := by rw [← hnl]; exact lt_get hj
  show w.cell? _ = _
  rw [blk_cell h1]
  have e1 : (l.flatMap encKp)[(i + 1) * 8 + j]? = some u := by
   rw [flat_split l (i + 1), List.getElem?_append_right (by rw [flat_len encKp_len, List.length_take, Nat.min_eq_left (by omega)]; omega), flat_len encKp_len, List.length_take, Nat.min_eq_left (by omega), hnews]
   rw [show (i + 1) * 8 + j - (i + 1) * 8 = j by omega]; exact hj
  rw [← h7, List.getElem?_take] at e1
  split at e1
  ·simpa using e1
  ·cases e1
 obtain ⟨A, hA, hsrc⟩ : ∃ A : Addr, (if c = i + 1 then (some ⟨g, 0, none⟩ : Option Addr) else some ⟨g, (i + 1) * 8, none⟩) = some A ∧ Hid (∀ j u, news[j]? = some u → w.drew.cell? (A.add j) = some u) := by
  by_cases h : c = i + 1
  ·refine ⟨⟨g, 0, none⟩, by simp [h], fun j u hj => ?_⟩
   have := lt_get hj
   rw [hnl] at this
   have : m = 0 := by omega
   subst this
   omega
  ·refine ⟨⟨g, (i + 1) * 8, none⟩, by simp [h], fun j u hj => ?_⟩
   rw [show ((⟨g, (i + 1) * 8, none⟩ : Addr).add j) = ⟨g, (i + 1) * 8 + j, none⟩ by unfold Addr.add; split <;> simp_all]
   exact hrow j u hj
 have s2 : Hid (∀ u ∈ news, u.oneCell' = true) := by
  intro u hu
  rw [← hnews] at hu
  obtain ⟨x, hx, hu⟩ := List.mem_flatMap.1 hu
  exact hone x (List.mem_of_mem_drop hx) u hu
 have s3 : Hid (∀ j, j < news.length → (w.drew.cell? ⟨g, 0 + i * 8 + j, none⟩).isSome = true ∧ w.drew.frozen? ⟨g, 0 + i * 8 + j, none⟩ = false) := by
  intro j hj
  rw [hnl] at hj
  rw [Nat.zero_add]
  exact ⟨hcc _ (by omega), hcf _⟩
 obtain ⟨W1, hW1⟩ : ∃ W1, W1 = w.drew.setCells g (0 + i * 8) news := ⟨_, rfl⟩
 have hown1 : OwnK W1 base (.slice (some ⟨g, 0, none⟩) n c) (l.take i ++ l.drop (i + 1) ++ l.drop (i + (l.drop (i + 1)).length)) := by
  rw [hW1, ← hnews, Nat.zero_add]
  exact Owns.write encKp_len (Owns.below hown (below_drewN (Below.refl _ _) 1)) i (l.drop (i + 1)) (by simp; omega)
 have hown2 : OwnK W1 base (.slice (some ⟨g, 0, none⟩) (n - 1) c) (l.eraseIdx i) := by
  have := Owns.cut encKp_len hown1 (n - 1) (by omega)
  rw [List.take_append_of_le_length (by simp; omega), List.take_of_length_le (by simp; omega)] at this
  rw [List.eraseIdx_eq_take_drop_succ]
  exact this
 have hg1 : w.grownBy W1 (some g) := by
  have := setCells_grown g (0 + i * 8) news w.drew
  rw [← hW1] at this
  exact ⟨this.os, this.tape, this.output, this.size, this.block⟩
 have hcc1 := hown1.cells.1
 have hcf1 := hown1.cells.2.1
 obtain ⟨vs, hclr, hvs⟩ := run_clear_rows' (P := Tryz.prog) W1 29 51 (.agg #[.int .i64 0, .int .i64 0, .int .i64 0, .int .i64 0, .int .u8 0, .int .i64 0, .bool false, .bool false]) 8 Tryz.underlying29 (fun w => by kernel_rfl) rfl (by decide) g ((i + m) * 8) (n - (i + m)) (c - (i + m)) (fun j hj => hcc1 _ (by omega)) (fun j hj => hcf1 _)
 have O2 := hid hown2
 have G1 := hid hg1
 have HW := hid hW1
 have HN := hid hn
 have S1 := hid hnl
 clear hown1 hown2 hg1 hW1 hnews hrow hcc1 hcf1 hown hcc hone hn
 have hic : i ≤ c := by omega
 have hjc : i + 1 ≤ c := by omega
 have d1 : ((i : Int) == (i : Int) + 1) = false := by simp; omega
 have d2 : (0 : Int) ≤ (i : Int) + 1 := by omega
 have d3 : (i : Int) + 1 ≤ (n : Int) := by omega
 go_enter Tryz.func81, Tryz.ntmps81
 go_wp2_with fail
 go_region_law (refine step_append_room rfl (.tmp 22) (.tmp 25) 29 rfl 51 i0 8 Tryz.underlying29 hi0 hz1 g 0 i c (by simp [Act.eval, Act.put]) A m (c - (i + 1)) news (by simp [Act.eval, Act.put]) S1.out hsrc.out s2.out (by omega) s3.out ?_; rw [← HW.out])
 go_wp2
 go_ret
 have him : i + m = n - 1 := by omega
 refine ⟨by rw [him]; rfl, ?_, grown_trans G1.out (setCells_grown _ _ _ _)⟩
 rw [← him]
 exact Owns.beyond encKp_len (by rw [him]; exact O2.out) _ _ (Nat.le_refl _)

set_option maxHeartbeats 2000000 in
set_option maxRecDepth 100000 in
theorem deleteIn_any (g c base i : Nat) (l : List IntentV) (w : World) (hown : OwnN w base (.slice (some ⟨g, 0, none⟩) l.length c) l) (hi : i < l.length) (hl : l.length ≤ 100000) (hone : ∀ x ∈ l, ∀ u ∈ encIn x, u.oneCell' = true) :
  Calls Tryz.prog 94 #[.slice (some ⟨g, 0, none⟩) l.length c, .int .i64 (i : Int), .int .i64 ((i : Int) + 1)] w fun e w' => e = .returned (.slice (some ⟨g, 0, none⟩) (l.length - 1) c) ∧ OwnN w' base (.slice (some ⟨g, 0, none⟩) (l.length - 1) c) (l.eraseIdx i) ∧ w.grownBy w' (some g) := by
 obtain ⟨i0, hi0, hz0, hz1, hz2⟩ := info_parts infoIn
 have hcc := hown.cells.1
 have hcf := hown.cells.2.1
 have hnc := hown.cells.2.2.2.1
 have hcm := hown.cells.2.2.2.2
 unfold maxLen at hcm
 obtain ⟨n, hn⟩ : ∃ n, l.length = n := ⟨_, rfl⟩
 obtain ⟨m, hm⟩ : ∃ m, n - (i + 1) = m := ⟨_, rfl⟩
 obtain ⟨news, hnews⟩ : ∃ news, (l.drop (i + 1)).flatMap encIn = news := ⟨_, rfl⟩
 have hnl : news.length = m * 4 := by rw [← hnews, flat_len encIn_len, List.length_drop, hn, hm]
 rw [hn] at hown hi hl hnc ⊢
 have hrow : ∀ j u, news[j]? = some u → w.drew.cell? ⟨g, (i + 1) * 4 + j, none⟩ = some u := by
  intro j u hj
  obtain ⟨cur, h1, h2, h3, h4, h5, h6, h7⟩ := hown.blk
  have hlt : j < m * 4 := by rw [← hnl]; exact lt_get hj
  show w.cell? _ = _
  rw [blk_cell h1]
  have e1 : (l.flatMap encIn)[(i + 1) * 4 + j]? = some u := by
   rw [flat_split l (i + 1), List.getElem?_append_right (by rw [flat_len encIn_len, List.length_take, Nat.min_eq_left (by omega)]; omega), flat_len encIn_len, List.length_take, Nat.min_eq_left (by omega), hnews]
   rw [show (i + 1) * 4 + j - (i + 1) * 4 = j by omega]; exact hj
  rw [← h7, List.getElem?_take] at e1
  split at e1
  ·simpa using e1
  ·cases e1
 obtain ⟨A, hA, hsrc⟩ : ∃ A : Addr, (if c = i + 1 then (some ⟨g, 0, none⟩ : Option Addr) else some ⟨g, (i + 1) * 4, none⟩) = some A ∧ Hid (∀ j u, news[j]? = some u → w.drew.cell? (A.add j) = some u) := by
  by_cases h : c = i + 1
  ·refine ⟨⟨g, 0, none⟩, by simp [h], fun j u hj => ?_⟩
   have := lt_get hj
   rw [hnl] at this
   have : m = 0 := by omega
   subst this
   omega
  ·refine ⟨⟨g, (i + 1) * 4, none⟩, by simp [h], fun j u hj => ?_⟩
   rw [show ((⟨g, (i + 1) * 4, none⟩ : Addr).add j) = ⟨g, (i + 1) * 4 + j, none⟩ by unfold Addr.add; split <;> simp_all]
   exact hrow j u hj
 have s2 : Hid (∀ u ∈ news, u.oneCell' = true) := by
  intro u hu
  rw [← hnews] at hu
  obtain ⟨x, hx, hu⟩ := List.mem_flatMap.1 hu
  exact hone x (List.mem_of_mem_drop hx) u hu
 have s3 : Hid (∀ j, j < news.length → (w.drew.cell? ⟨g, 0 + i * 4 + j, none⟩).isSome = true ∧ w.drew.frozen? ⟨g, 0 + i * 4 + j, none⟩ = false) := by
  intro j hj
  rw [hnl] at hj
  rw [Nat.zero_add]
  exact ⟨hcc _ (by omega), hcf _⟩
 obtain ⟨W1, hW1⟩ : ∃ W1, W1 = w.drew.setCells g (0 + i * 4) news := ⟨_, rfl⟩
 have hown1 : OwnN W1 base (.slice (some ⟨g, 0, none⟩) n c) (l.take i ++ l.drop (i + 1) ++ l.drop (i + (l.drop (i + 1)).length)) := by
  rw [hW1, ← hnews, Nat.zero_add]
  exact Owns.write encIn_len (Owns.below hown (below_drewN (Below.refl _ _) 1)) i (l.drop (i + 1)) (by simp; omega)
 have hown2 : OwnN W1 base (.slice (some ⟨g, 0, none⟩) (n - 1) c) (l.eraseIdx i) := by
  have := Owns.cut encIn_len hown1 (n - 1) (by omega)
  rw [List.take_append_of_le_length (by simp; omega), List.take_of_length_le (by simp; omega)] at this
  rw [List.eraseIdx_eq_take_drop_succ]
  exact this
 have hg1 : w.grownBy W1 (some g) := by
  have := setCells_grown g (0 + i * 4) news w.drew
  rw [← hW1] at this
  exact ⟨this.os, this.tape, this.output, this.size, this.block⟩
 have hcc1 := hown1.cells.1
 have hcf1 := hown1.cells.2.1
 obtain ⟨vs, hclr, hvs⟩ := run_clear_rows' (P := Tryz.prog) W1 28 54 (.agg #[.int .i64 0, .int .i64 0, .int .i64 0, .bool false]) 4 Tryz.underlying28 (fun w => by kernel_rfl) rfl (by decide) g ((i + m) * 4) (n - (i + m)) (c - (i + m)) (fun j hj => hcc1 _ (by omega)) (fun j hj => hcf1 _)
 have O2 := hid hown2
 have G1 := hid hg1
 have HW := hid hW1
 have HN := hid hn
 have S1 := hid hnl
 clear hown1 hown2 hg1 hW1 hnews hrow hcc1 hcf1 hown hcc hone hn
 have hic : i ≤ c := by omega
 have hjc : i + 1 ≤ c := by omega
 have d1 : ((i : Int) == (i : Int) + 1) = false := by simp; omega
 have d2 : (0 : Int) ≤ (i : Int) + 1 := by omega
 have d3 : (i : Int) + 1 ≤ (n : Int) := by omega
 go_enter Tryz.func94, Tryz.ntmps94
 go_wp2_with fail
 go_region_law (refine step_append_room rfl (.tmp 22) (.tmp 25) 28 rfl 54 i0 4 Tryz.underlying28 hi0 hz1 g 0 i c (by simp [Act.eval, Act.put]) A m (c - (i + 1)) news (by simp [Act.eval, Act.put]) S1.out hsrc.out s2.out (by omega) s3.out ?_; rw [← HW.out])
 go_wp2
 go_ret
 have him : i + m = n - 1 := by omega
 refine ⟨by rw [him]; rfl, ?_, grown_trans G1.out (setCells_grown _ _ _ _)⟩
 rw [← him]
 exact Owns.beyond encIn_len (by rw [him]; exact O2.out) _ _ (Nat.le_refl _)
end Go.Proofs.YtgcajfglidflnaaGreatDoor
