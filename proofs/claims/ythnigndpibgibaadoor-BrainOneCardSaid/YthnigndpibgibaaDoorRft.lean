/- herdref13.Find, herdref13.Token. Printed by gn_rft.py. -/
import Derived.Test.YthnigndpibgibaaDoorVr
namespace Go.Proofs.YthnigndpibgibaaDoor
open Go.RowKit Go.Shelf
attribute [-go_sem] loadVar
attribute [local go_sem] load_other

set_option maxRecDepth 100000 in
set_option maxHeartbeats 1000000 in
theorem rfind13_any (B : BrainV) (v : Value) (t : Int) (w : World) (h : BrIs w B v) :
    Calls Tryd.prog 19 #[v, .int .i64 t] w fun e w' => e = .returned (.int .i64 (idxL B.K (fun x => x.id == t))) ∧ Below w.heap.size w w' := by
  obtain ⟨ma, mc, ia, ic, ka, kc, rfl, hm, hi, hk⟩ := h.open
  obtain ⟨_, _, he, p1, p2, p3, hop⟩ := hk.open
  cases he
  obtain ⟨W1, hW1⟩ : ∃ W1, W1 = w.alloc (.cells (brT B.f B.g (.slice ma B.M.length mc) (.slice ia B.I.length ic) (.slice ka B.K.length kc)) 30) := ⟨_, rfl⟩
  have hb1 : Below w.heap.size w W1 := by rw [hW1]; exact (Below.refl _ _).alloc (Nat.le_refl _) _
  have n1 : BB W1 w.heap.size (brT B.f B.g (.slice ma B.M.length mc) (.slice ia B.I.length ic) (.slice ka B.K.length kc)) := by rw [hW1]; exact heap_new _ _
  have x0 : W1.cell? ⟨w.heap.size, 19, none⟩ = some (.slice ka B.K.length kc) := blk_cell n1 19
  have hl1 := blk_lt n1
  obtain ⟨r, hr⟩ : ∃ r, idxL B.K (fun x => x.id == t) = r := ⟨_, rfl⟩
  rw [hr]
  have HR := hid hr
  have HB1 := hid hb1
  have HOP := hid hop
  have HW1 := hid hW1
  have X0 := hid x0
  clear h hm hi hk hop n1 hb1 hr x0 hW1
  go_enter Tryd.func19, Tryd.ntmps19
  go_wp2
  rw [← HW1.out]
  go_loopw [5] (fun i wr => ∃ k : Nat, k ≤ B.K.length ∧ i = .int .i64 k ∧ (∀ y ∈ B.K.take k, (y.id == t) = false) ∧ Below W1.heap.size W1 wr) (fun i _ => B.K.length - (intOf i).toNat)
  case atStart => exact ⟨0, Nat.zero_le _, rfl, (fun x hx => by simp at hx), Below.refl _ _⟩
  case round =>
    obtain ⟨k, hk, rfl, hno, hB⟩ := hrel
    have HNO := hid hno
    have HB := hid hB
    have HBW := hid (HB1.out.trans (hB.mono HB1.out.size))
    have z0 := cell_below X0.out hB
    have lr1 : w.heap.size < wr.heap.size := Nat.lt_of_lt_of_le hl1 hB.size
    clear hno hB
    by_cases hlt : k < B.K.length
    · obtain ⟨b1, o1, rfl, hb1, hr1⟩ := HOP.out (by omega)
      obtain ⟨x, hx⟩ := get_lt hlt
      obtain ⟨g0, _, _, _, _, _, _, _⟩ := rowK (hr1.below HBW.out hb1) hx
      have hkL : (k : Int) < (B.K.length : Int) := by omega
      have hb1w : b1 < wr.heap.size := Nat.lt_of_lt_of_le hb1 HBW.out.size
      have HX := hid hx
      obtain ⟨u, hu⟩ : ∃ u, x.id = u := ⟨_, rfl⟩
      have HU := hid hu
      rw [hu] at g0
      clear hx hr1 hu
      by_cases hut : u = t
      · have d1 : (u == t) = true := by simpa using hut
        have HE := hid (show idxL B.K (fun x => x.id == t) = (k : Int) from idxL_at HX.out (by rw [HU.out]; exact d1) HNO.out)
        obtain rfl : r = (k : Int) := by rw [← HR.out]; exact HE.out
        clear hut
        go_wp2
        go_ret
        exact ⟨rfl, HBW.out⟩
      · have d1 : (u == t) = false := by simpa using hut
        have HN := hid (idxL_next HX.out HNO.out (by rw [HU.out]; exact d1))
        clear hut
        go_wp2
        go_roundw
        case rel => exact ⟨k + 1, by omega, by go_num, HN.out, HB.out⟩
        case measure => simp [intOf]; omega
    · obtain rfl : k = B.K.length := by omega
      have HE := hid (show idxL B.K (fun x => x.id == t) = -1 from idxL_no (by have := HNO.out; rwa [List.take_length] at this))
      obtain rfl : r = -1 := by rw [← HR.out]; exact HE.out
      go_wp2
      go_ret
      exact ⟨rfl, HBW.out⟩
theorem rfind13_at (B : BrainV) (v : Value) (t r : Int) (hr : idxL B.K (fun x => x.id == t) = r) (w : World) (h : BrIs w B v) :
    Calls Tryd.prog 19 #[v, .int .i64 t] w fun e w' => e = .returned (.int .i64 r) ∧ Below w.heap.size w w' := by
  rw [← hr]; exact rfind13_any B v t w h
set_option maxRecDepth 100000 in
set_option maxHeartbeats 1000000 in
theorem rtoken13_any (B : BrainV) (v : Value) (t : Int) (w : World) (h : BrIs w B v) :
    Calls Tryd.prog 14 #[v, .int .i64 t] w fun e w' => e = .returned (.int .i64 (idxL B.I (fun x => x.token == t))) ∧ Below w.heap.size w w' := by
  obtain ⟨ma, mc, ia, ic, ka, kc, rfl, hm, hi, hk⟩ := h.open
  obtain ⟨_, _, he, p1, p2, p3, hop⟩ := hi.open
  cases he
  obtain ⟨W1, hW1⟩ : ∃ W1, W1 = w.alloc (.cells (brT B.f B.g (.slice ma B.M.length mc) (.slice ia B.I.length ic) (.slice ka B.K.length kc)) 30) := ⟨_, rfl⟩
  have hb1 : Below w.heap.size w W1 := by rw [hW1]; exact (Below.refl _ _).alloc (Nat.le_refl _) _
  have n1 : BB W1 w.heap.size (brT B.f B.g (.slice ma B.M.length mc) (.slice ia B.I.length ic) (.slice ka B.K.length kc)) := by rw [hW1]; exact heap_new _ _
  have x0 : W1.cell? ⟨w.heap.size, 18, none⟩ = some (.slice ia B.I.length ic) := blk_cell n1 18
  have hl1 := blk_lt n1
  obtain ⟨r, hr⟩ : ∃ r, idxL B.I (fun x => x.token == t) = r := ⟨_, rfl⟩
  rw [hr]
  have HR := hid hr
  have HB1 := hid hb1
  have HOP := hid hop
  have HW1 := hid hW1
  have X0 := hid x0
  clear h hm hi hk hop n1 hb1 hr x0 hW1
  go_enter Tryd.func14, Tryd.ntmps14
  go_wp2
  rw [← HW1.out]
  go_loopw [5] (fun i wr => ∃ k : Nat, k ≤ B.I.length ∧ i = .int .i64 k ∧ (∀ y ∈ B.I.take k, (y.token == t) = false) ∧ Below W1.heap.size W1 wr) (fun i _ => B.I.length - (intOf i).toNat)
  case atStart => exact ⟨0, Nat.zero_le _, rfl, (fun x hx => by simp at hx), Below.refl _ _⟩
  case round =>
    obtain ⟨k, hk, rfl, hno, hB⟩ := hrel
    have HNO := hid hno
    have HB := hid hB
    have HBW := hid (HB1.out.trans (hB.mono HB1.out.size))
    have z0 := cell_below X0.out hB
    have lr1 : w.heap.size < wr.heap.size := Nat.lt_of_lt_of_le hl1 hB.size
    clear hno hB
    by_cases hlt : k < B.I.length
    · obtain ⟨b1, o1, rfl, hb1, hr1⟩ := HOP.out (by omega)
      obtain ⟨x, hx⟩ := get_lt hlt
      obtain ⟨g0, _, _, _⟩ := rowI (hr1.below HBW.out hb1) hx
      have hkL : (k : Int) < (B.I.length : Int) := by omega
      have hb1w : b1 < wr.heap.size := Nat.lt_of_lt_of_le hb1 HBW.out.size
      have HX := hid hx
      obtain ⟨u, hu⟩ : ∃ u, x.token = u := ⟨_, rfl⟩
      have HU := hid hu
      rw [hu] at g0
      clear hx hr1 hu
      by_cases hut : u = t
      · have d1 : (u == t) = true := by simpa using hut
        have HE := hid (show idxL B.I (fun x => x.token == t) = (k : Int) from idxL_at HX.out (by rw [HU.out]; exact d1) HNO.out)
        obtain rfl : r = (k : Int) := by rw [← HR.out]; exact HE.out
        clear hut
        go_wp2
        go_ret
        exact ⟨rfl, HBW.out⟩
      · have d1 : (u == t) = false := by simpa using hut
        have HN := hid (idxL_next HX.out HNO.out (by rw [HU.out]; exact d1))
        clear hut
        go_wp2
        go_roundw
        case rel => exact ⟨k + 1, by omega, by go_num, HN.out, HB.out⟩
        case measure => simp [intOf]; omega
    · obtain rfl : k = B.I.length := by omega
      have HE := hid (show idxL B.I (fun x => x.token == t) = -1 from idxL_no (by have := HNO.out; rwa [List.take_length] at this))
      obtain rfl : r = -1 := by rw [← HR.out]; exact HE.out
      go_wp2
      go_ret
      exact ⟨rfl, HBW.out⟩
theorem rtoken13_at (B : BrainV) (v : Value) (t r : Int) (hr : idxL B.I (fun x => x.token == t) = r) (w : World) (h : BrIs w B v) :
    Calls Tryd.prog 14 #[v, .int .i64 t] w fun e w' => e = .returned (.int .i64 r) ∧ Below w.heap.size w w' := by
  rw [← hr]; exact rtoken13_any B v t w h
end Go.Proofs.YthnigndpibgibaaDoor
