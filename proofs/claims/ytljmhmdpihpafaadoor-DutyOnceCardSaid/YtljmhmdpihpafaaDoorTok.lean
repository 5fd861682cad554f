/- brain.Token: where an Intent lies. -/
import Derived.Test.YtljmhmdpihpafaaDoorIsM
namespace Go.Proofs.YtljmhmdpihpafaaDoor
open Go.RowKit Go.Shelf

/-- Where the Intent of a token lies; -1: nowhere. -/
def tokI (I : List IntentV) (t : Int) : Int := match I.findIdx? (fun x => x.token == t) with
  | some i => i
  | none => -1
theorem tokI_at {I : List IntentV} {t : Int} {k : Nat} {x : IntentV} (hx : I[k]? = some x) (ht : x.token = t) (h : ∀ y ∈ I.take k, ¬ y.token = t) : tokI I t = k := by
  have : I.findIdx? (fun x => x.token == t) = some k := by
    rw [List.findIdx?_eq_some_iff_getElem]
    obtain ⟨hk, hx'⟩ := List.getElem?_eq_some_iff.1 hx
    refine ⟨hk, by simp [hx', ht], fun j hj => ?_⟩
    have : I[j] ∈ I.take k := by
      refine List.mem_of_getElem? (i := j) ?_
      rw [List.getElem?_take, if_pos hj, List.getElem?_eq_getElem (by omega)]
    simpa using h _ this
  simp [tokI, this]
theorem tokI_no {I : List IntentV} {t : Int} (h : ∀ y ∈ I, ¬ y.token = t) : tokI I t = -1 := by
  have : I.findIdx? (fun x => x.token == t) = none := by
    rw [List.findIdx?_eq_none_iff]
    intro x hx
    simpa using h x hx
  simp [tokI, this]
theorem tok_next {I : List IntentV} {t : Int} {k : Nat} {x : IntentV} (hx : I[k]? = some x) (h : ∀ y ∈ I.take k, ¬ y.token = t) (hne : ¬ x.token = t) : ∀ y ∈ I.take (k + 1), ¬ y.token = t := by
  rw [take_snoc I k x hx]
  intro y hy
  rcases List.mem_append.1 hy with h1 | h1
  · exact h y h1
  · simp at h1; rw [h1]; exact hne

def encInv (x : IntentV) : Value := .agg #[.int .i64 x.token, .int .i64 x.version, .int .i64 x.zone, .bool x.warm]
set_option maxHeartbeats 400000 in
theorem token1_any (x : IntentV) (p : Nat) (t : Int) (W : World) (h : W.cell? ⟨p, 0, none⟩ = some (.int .i64 t)) :
    Calls Tryd.prog 43 (#[encInv x] ++ #[.pointer (some ⟨p, 0, none⟩)]) W fun e W'' => e = .returned (.bool (x.token == t)) ∧ Below W.heap.size W W'' := by
  have hp := lt_of_cell h
  dsimp only at hp
  unfold encInv
  go_enter Tryd.func43, Tryd.ntmps43
  go_wp2
  go_ret
  exact ⟨rfl, (Below.refl _ _).alloc (Nat.le_refl _) _⟩

set_option maxHeartbeats 1000000 in
set_option maxRecDepth 100000 in
theorem indexI_any (s : Value) (I : List IntentV) (p : Nat) (t : Int) (w : World) (hs : RowOf 4 encIn w s I) (hL : I.length ≤ 1000000) (hp : w.cell? ⟨p, 0, none⟩ = some (.int .i64 t)) :
    Calls Tryd.prog 42 #[s, .func (.func 43) #[] #[.pointer (some ⟨p, 0, none⟩)]] w fun e w' => e = .returned (.int .i64 (tokI I t)) ∧ Below w.heap.size w w' := by
  obtain ⟨a, c, rfl, hl1, hl2, hl3, hop⟩ := hs.open
  have HOP := hid hop
  have HP := hid hp
  clear hop hs hp
  go_enter Tryd.func42, Tryd.ntmps42
  go_wp2
  go_loopw [8] (fun i wr => ∃ k : Nat, k ≤ I.length ∧ i = .int .i64 k ∧ (∀ y ∈ I.take k, ¬ y.token = t) ∧ Below w.heap.size w wr) (fun i _ => I.length - (intOf i).toNat)
  case atStart => exact ⟨0, Nat.zero_le _, rfl, by simp, Below.refl _ _⟩
  case round =>
    obtain ⟨k, hk, rfl, htk, hB⟩ := hrel
    have HT := hid htk
    clear htk
    have hsz := hB.size
    by_cases hlt : k < I.length
    · obtain ⟨b1, o1, rfl, hb1, hr1⟩ := HOP.out (by omega)
      obtain ⟨x, hx⟩ := get_lt hlt
      obtain ⟨g0, g1, g2, g3⟩ := rowI (hr1.below hB hb1) hx
      have HX := hid hx
      have HB := hid hB
      have hkL : (k : Int) < (I.length : Int) := by omega
      have HC := hid (token1_any x p t wr (cell_below HP.out hB))
      clear hx hB
      go_wp2_with fail
      refine HC.out.mono ?_
      rintro e w2 ⟨rfl, hb⟩
      have HB2 := hid (HB.out.trans (hb.mono hsz))
      clear hb
      by_cases hxt : x.token = t
      · have hq : (x.token == t) = true := by simpa using hxt
        rw [hq]
        go_wp2
        go_ret
        exact ⟨by rw [tokI_at HX.out hxt HT.out]; rfl, HB2.out⟩
      · have hq : (x.token == t) = false := by simpa using hxt
        rw [hq]
        have HXT := hid hxt
        clear hxt hq
        go_wp2
        go_roundw
        case rel => exact ⟨k + 1, by omega, by go_num, tok_next HX.out HT.out HXT.out, HB2.out⟩
        case measure => simp [intOf]; omega
    · obtain rfl : k = I.length := by omega
      go_wp2
      go_ret
      exact ⟨by rw [tokI_no (fun y hy => HT.out y (by rw [List.take_length]; exact hy))]; rfl, hB⟩

set_option maxHeartbeats 1000000 in
theorem token_any (cs : Array Value) (iv kv : Value) (hcs : BC cs iv kv) (I : List IntentV) (t : Int) (w : World) (hI : RowOf 4 encIn w iv I) (hl : I.length ≤ 1000) :
    Calls Tryd.prog 37 #[.agg cs, .int .i64 t] w fun e w' => e = .returned (.int .i64 (tokI I t)) ∧ Below w.heap.size w w' := by
  have hmf := mkfunc
  have Z0 : Below w.heap.size w ((w.alloc (.cells cs 30)).alloc (.cells #[.int .i64 t] 3)) := ((Below.refl _ _).alloc (Nat.le_refl _) _).alloc (by simp) _
  have hg := (BB.new w cs).below ((Below.refl _ _).alloc (Nat.le_refl _) (.cells #[.int .i64 t] 3)) (by simp)
  obtain ⟨g1, g2, g3, g4⟩ := hg.two hcs
  have HC := hid (indexI_any iv I (w.heap.size + 1) t _ (hI.below Z0) (by omega) (blk_cell (heap_new2 w (.cells cs 30) (.cells #[.int .i64 t] 3)) 0))
  have HZ := hid Z0
  obtain ⟨e1, e2, e3⟩ := hcs
  clear Z0 hg hI
  go_enter Tryd.func37, Tryd.ntmps37
  go_wp2_with fail
  refine HC.out.mono ?_
  rintro e w1 ⟨rfl, hb⟩
  go_wp2
  go_ret
  exact ⟨rfl, HZ.out.trans (hb.mono HZ.out.size)⟩
end Go.Proofs.YtljmhmdpihpafaaDoor
