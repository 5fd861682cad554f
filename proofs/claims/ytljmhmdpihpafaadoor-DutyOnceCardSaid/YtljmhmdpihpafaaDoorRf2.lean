
/- The reference's functions of layer 12: Begin, Has, Find, Same. -/
import Derived.Test.YtljmhmdpihpafaaDoorRfp
import Derived.Test.YtljmhmdpihpafaaDoorBgn
namespace Go.Proofs.YtljmhmdpihpafaaDoor
open Go.RowKit Go.Shelf

theorem res_call_tmp {fn : Func} {tmps : Array Value} {r q : Tmp} {b : Nat} {x y z t u : Value} {W : World} (hres : fn.results = #[.cell r 45, .tmp q]) (h : tmps.getD r undef = .pointer (some ⟨b, 0, none⟩)) (hq : tmps.getD q undef = u) (hb : W.heap[b]? = some (.cells #[x, y, z, t] 45)) :
    (results fn tmps).run Tryd.prog W = .ok (.tuple #[.agg #[x, y, z, t], u]) W := by
  obtain ⟨k0, k1, k2, k3, _, _⟩ := blk4 hb
  rw [Array.getD_eq_getD_getElem?] at h hq
  simp [results, hres, go_sem, h, hq, k0, k1, k2, k3]

theorem hasB_all {l : List CallV} {k : Nat} {kd ky : Int} (h : hasB (l.take k) kd ky = false) (hk : k = l.length) : hasB l kd ky = false := by
  subst hk; rwa [List.take_length] at h
theorem hasB_next {l : List CallV} {k : Nat} {x : CallV} {kd ky : Int} (h : hasB (l.take k) kd ky = false) (hx : l[k]? = some x) (hn : ¬ (x.kind = kd ∧ x.key = ky)) : hasB (l.take (k + 1)) kd ky = false := by
  rw [take_snoc l k x hx, hasB_snoc, h, Bool.false_or]
  apply Bool.eq_false_iff.2
  simpa using hn

set_option maxHeartbeats 1000000 in
set_option maxRecDepth 100000 in
theorem rhas_any (ep nx kd ky : Int) (s : Value) (l : List CallV) (w : World) (hn : l.length ≤ 1000000) (hs : Row12 w s l) :
    Calls Tryd.prog 15 #[calls ep nx s, .int .u8 kd, .int .i64 ky] w fun e w' => e = .returned (.bool (hasB l kd ky)) ∧ Below w.heap.size w w' := by
  unfold calls
  obtain ⟨a, c, rfl, hl1, hl2, hl3, hop⟩ := hs.open
  have HOP := hid hop
  clear hop hs
  go_enter Tryd.func15, Tryd.ntmps15
  go_wp2
  obtain ⟨wo, hwo⟩ : ∃ wo : World, wo = w.alloc (.cells #[.int .i64 ep, .int .i64 nx, .slice a l.length c] 33) := ⟨_, rfl⟩
  have B0 : Hid (wo.heap[w.heap.size]? = some (.cells #[.int .i64 ep, .int .i64 nx, .slice a l.length c] 33)) := hid (by rw [hwo]; exact heap_new w _)
  have Z : Hid (Below w.heap.size w wo) := hid (by rw [hwo]; exact (Below.refl _ _).alloc (Nat.le_refl _) _)
  rw [← hwo]
  clear hwo
  go_loopw [7] (fun i wr => ∃ k : Nat, i = .int .i64 k ∧ k ≤ l.length ∧ hasB (l.take k) kd ky = false ∧ Below wo.heap.size wo wr) (fun i _ => l.length - (intOf i).toNat)
  case atStart => exact ⟨0, rfl, Nat.zero_le _, rfl, Below.refl _ _⟩
  case round =>
    obtain ⟨k, rfl, hk, hno, hB⟩ := hrel
    have HNO := hid hno
    have HB := hid hB
    have HBZ := hid (Z.out.trans (hB.mono Z.out.size))
    clear hno hB
    obtain ⟨b00, b01, b02, b0f, b0l⟩ := blk3 (blk_below B0.out HB.out (blk_lt B0.out))
    by_cases hlt : k < l.length
    · obtain ⟨b, off, rfl, hb, hrow⟩ := HOP.out (by omega)
      obtain ⟨x, hx⟩ := get_lt hlt
      obtain ⟨g0, g1, g2, g3⟩ := row4 (hrow.below HBZ.out hb) hx
      have HX := hid hx
      have hbz : b < wr.heap.size := by have := HBZ.out.size; omega
      clear hx hrow
      by_cases h1 : x.kind = kd
      · have t1 : (x.kind == kd) = true := by simpa using h1
        by_cases h2 : x.key = ky
        · have t2 : (x.key == ky) = true := by simpa using h2
          have HH := hid (hasB_at HX.out h1 h2)
          clear h1 h2
          go_wp2
          go_ret
          exact ⟨ret_bool HH.out.symm, HBZ.out⟩
        · have t2 : (x.key == ky) = false := by simpa using h2
          have HH := hid (hasB_next HNO.out HX.out (fun h => h2 h.2))
          clear h1 h2
          go_wp2
          go_roundw
          case rel => exact ⟨k + 1, by go_num, by omega, HH.out, HB.out⟩
          case measure => simp [intOf]; omega
      · have t1 : (x.kind == kd) = false := by simpa using h1
        have HH := hid (hasB_next HNO.out HX.out (fun h => h1 h.1))
        clear h1
        go_wp2
        go_roundw
        case rel => exact ⟨k + 1, by go_num, by omega, HH.out, HB.out⟩
        case measure => simp [intOf]; omega
    · have HH := hid (hasB_all HNO.out (by omega))
      obtain rfl : k = l.length := by omega
      go_wp2
      go_ret
      exact ⟨ret_bool HH.out.symm, HBZ.out⟩

theorem findC_yes {l : List CallV} {k : Nat} {x : CallV} {id : Int} (hx : l[k]? = some x) (hn : (l.take k).find? (fun x => x.id == id) = none) (h : x.id = id) : findC l id = (x, true) := by
  have hf := List.find?_append (xs := l.take k) (ys := l.drop k) (p := fun x => x.id == id)
  rw [List.take_append_drop, hn, drop_get hx] at hf
  unfold findC
  rw [hf]
  simp [h]
theorem findC_no {l : List CallV} {k : Nat} {id : Int} (hn : (l.take k).find? (fun x => x.id == id) = none) (hk : k = l.length) : findC l id = (⟨0, 0, 0, 0⟩, false) := by
  subst hk
  rw [List.take_length] at hn
  unfold findC
  rw [hn]
theorem find_next {l : List CallV} {k : Nat} {x : CallV} {id : Int} (hx : l[k]? = some x) (hn : (l.take k).find? (fun x => x.id == id) = none) (h : ¬ x.id = id) : (l.take (k + 1)).find? (fun x => x.id == id) = none := by
  rw [take_snoc l k x hx, List.find?_append, hn]
  simp [h]

set_option maxHeartbeats 1000000 in
set_option maxRecDepth 100000 in
theorem rfind_any (ep nx id : Int) (s : Value) (l : List CallV) (w : World) (hn : l.length ≤ 1000000) (hs : Row12 w s l) :
    Calls Tryd.prog 14 #[calls ep nx s, .int .i64 id] w fun e w' => e = .returned (.tuple #[encS (findC l id).1, .bool (findC l id).2]) ∧ Below w.heap.size w w' := by
  unfold calls
  obtain ⟨a, c, rfl, hl1, hl2, hl3, hop⟩ := hs.open
  have HOP := hid hop
  clear hop hs
  go_enter Tryd.func14, Tryd.ntmps14
  go_wp2
  obtain ⟨wo, hwo⟩ : ∃ wo : World, wo = (w.alloc (.cells #[.int .i64 ep, .int .i64 nx, .slice a l.length c] 33)).alloc (.cells #[.int .i64 0, .int .u8 0, .int .i64 0, .int .i64 0] 45) := ⟨_, rfl⟩
  have B0 : Hid (wo.heap[w.heap.size]? = some (.cells #[.int .i64 ep, .int .i64 nx, .slice a l.length c] 33)) := hid (by rw [hwo]; exact blk_alloc (heap_new w _) _)
  have R0 : Hid (wo.heap[w.heap.size + 1]? = some (.cells #[.int .i64 0, .int .u8 0, .int .i64 0, .int .i64 0] 45)) := hid (by rw [hwo]; exact heap_new2 w _ _)
  have Z : Hid (Below w.heap.size w wo) := hid (by rw [hwo]; exact ((Below.refl _ _).alloc (Nat.le_refl _) _).alloc (by simp) _)
  rw [← hwo]
  clear hwo
  go_loopw [6] (fun i wr => ∃ k : Nat, i = .int .i64 k ∧ k ≤ l.length ∧ (l.take k).find? (fun x => x.id == id) = none ∧ Below wo.heap.size wo wr) (fun i _ => l.length - (intOf i).toNat)
  case atStart => exact ⟨0, rfl, Nat.zero_le _, rfl, Below.refl _ _⟩
  case round =>
    obtain ⟨k, rfl, hk, hno, hB⟩ := hrel
    have HNO := hid hno
    have HB := hid hB
    have HBZ := hid (Z.out.trans (hB.mono Z.out.size))
    clear hno hB
    have E0 := hid (blk_below B0.out HB.out (blk_lt B0.out))
    have F0 := hid (blk_below R0.out HB.out (blk_lt R0.out))
    obtain ⟨b00, b01, b02, b0f, b0l⟩ := blk3 E0.out
    obtain ⟨r00, r01, r02, r03, r0f, r0l⟩ := blk4 F0.out
    by_cases hlt : k < l.length
    · obtain ⟨b, off, rfl, hb, hrow⟩ := HOP.out (by omega)
      obtain ⟨x, hx⟩ := get_lt hlt
      obtain ⟨g0, g1, g2, g3⟩ := row4 (hrow.below HBZ.out hb) hx
      have HX := hid hx
      have hbz : b < wr.heap.size := by have := HBZ.out.size; omega
      clear hx hrow
      by_cases h1 : x.id = id
      · have t1 : (x.id == id) = true := by simpa using h1
        have HH := hid (findC_yes HX.out HNO.out h1)
        clear h1
        go_wp2
        refine bodyPost_ret (res_call_tmp rfl rfl rfl (blk_set (blk_set (blk_set (blk_set F0.out 0 _) 1 _) 2 _) 3 _)) rfl ⟨by rw [HH.out]; rfl, ?_⟩
        exact (((HBZ.out.setCell (p := ⟨w.heap.size + 1, 0, none⟩) (by simp) _).setCell (p := ⟨w.heap.size + 1, 1, none⟩) (by simp) _).setCell (p := ⟨w.heap.size + 1, 2, none⟩) (by simp) _).setCell (p := ⟨w.heap.size + 1, 3, none⟩) (by simp) _
      · have t1 : (x.id == id) = false := by simpa using h1
        have HH := hid (find_next HX.out HNO.out h1)
        clear h1
        go_wp2
        go_roundw
        case rel => exact ⟨k + 1, by go_num, by omega, HH.out, HB.out⟩
        case measure => simp [intOf]; omega
    · have HH := hid (findC_no HNO.out (by omega))
      obtain rfl : k = l.length := by omega
      go_wp2
      refine bodyPost_ret (res_call_tmp rfl rfl rfl (blk_set (blk_set (blk_set (blk_set F0.out 0 _) 1 _) 2 _) 3 _)) rfl ⟨by rw [HH.out]; rfl, ?_⟩
      exact (((HBZ.out.setCell (p := ⟨w.heap.size + 1, 0, none⟩) (by simp) _).setCell (p := ⟨w.heap.size + 1, 1, none⟩) (by simp) _).setCell (p := ⟨w.heap.size + 1, 2, none⟩) (by simp) _).setCell (p := ⟨w.heap.size + 1, 3, none⟩) (by simp) _
end Go.Proofs.YtljmhmdpihpafaaDoor
