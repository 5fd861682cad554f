/- The walk of the reference's Right. -/
import Derived.Test.YtljmhmdpihpafaaDoorRf0
import Derived.Deep.RegionWith
namespace Go.Proofs.YtljmhmdpihpafaaDoor
open Go.RowKit Go.Shelf

theorem quiet_left {P : Program} {f : FuncId} {args : Array Value} {w : World} {n : Nat} {v : Value} (h : Calls P f args (w.drewN n) fun e w' => e = .returned v ∧ w.drewN n = w') : Calls P f args (w.drewN n) fun e w'' => e = .returned v ∧ ∃ m, w'' = w.drewN m :=
  h.mono fun _ _ ⟨he, hm⟩ => ⟨he, n, hm.symm⟩
theorem rkind_at (k : Int) (b : Bool) (hb : kindB k = b) (w : World) : Calls Tryd.prog 18 #[.int .u8 k] w fun e w' => e = .returned (.bool b) ∧ w = w' := by rw [← hb]; exact rkind_any k w
theorem rnum_at (n : Int) (b : Bool) (hb : numB n = b) (w : World) : Calls Tryd.prog 19 #[.int .i64 n] w fun e w' => e = .returned (.bool b) ∧ w = w' := by rw [← hb]; exact rnum_any n w
theorem refAt_not {ep nx : Int} {pre : List CallV} {x : CallV} (h : ¬ (1 ≤ wrap64 (x.id - ep * 1048576) ∧ wrap64 (x.id - ep * 1048576) < nx ∧ (∀ y, pre.getLast? = some y → y.id < x.id) ∧ kindB x.kind = true ∧ numB x.key = true ∧ numB x.sent = true ∧ hasB pre x.kind x.key = false)) : refAt ep nx pre x = false := by
  apply Bool.eq_false_iff.2
  intro hr
  apply h
  unfold refAt at hr
  simp only [Bool.and_eq_true, decide_eq_true_eq, Bool.not_eq_true'] at hr
  obtain ⟨a, b, c, d, e, f, g⟩ := hr
  refine ⟨a, b, ?_, d, e, f, g⟩
  intro y hy
  rw [hy] at c
  simpa using c
theorem refAt_yes {ep nx : Int} {pre : List CallV} {x : CallV} (h : 1 ≤ wrap64 (x.id - ep * 1048576) ∧ wrap64 (x.id - ep * 1048576) < nx ∧ (∀ y, pre.getLast? = some y → y.id < x.id) ∧ kindB x.kind = true ∧ numB x.key = true ∧ numB x.sent = true ∧ hasB pre x.kind x.key = false) : refAt ep nx pre x = true := by
  obtain ⟨a, b, c, d, e, f, g⟩ := h
  unfold refAt
  simp only [Bool.and_eq_true, decide_eq_true_eq, Bool.not_eq_true']
  refine ⟨a, b, ?_, d, e, f, g⟩
  split
  · rfl
  · rename_i y hy
    simpa using c y hy
theorem goF_step {ep nx : Int} {pre : List CallV} {x : CallV} {xs : List CallV} (h : refAt ep nx pre x = true) : goF ep nx pre (x :: xs) = goF ep nx (pre ++ [x]) xs := by rw [goF, h]; rfl
theorem goF_not {ep nx : Int} {pre : List CallV} {x : CallV} {xs : List CallV} (h : refAt ep nx pre x = false) : goF ep nx pre (x :: xs) = false := by rw [goF, h]; rfl
theorem last_take {l : List CallV} {k : Nat} {y : CallV} (h : l[k]? = some y) : (l.take (k + 1)).getLast? = some y := by
  rw [take_snoc l k y h]; simp

set_option maxHeartbeats 2000000 in
set_option maxRecDepth 100000 in
theorem rright_in (ep nx : Int) (s : Value) (l : List CallV) (w : World) (hn : l.length ≤ 1000000) (hs : Row12 w s l)
    (h1 : 0 ≤ ep) (h2 : ep ≤ 524288) (h3 : 1 ≤ nx) (h4 : nx ≤ 1048576) :
    Calls Tryd.prog 8 #[calls ep nx s] w fun e w' => e = .returned (.bool (goF ep nx [] l)) ∧ Below w.heap.size w w' := by
  unfold calls
  obtain ⟨a, c, rfl, hl1, hl2, hl3, hop⟩ := hs.open
  have HOP := hid hop
  clear hop hs
  have d1 : decide (ep < 0) = false := by simp; omega
  have d2 : decide (524288 < ep) = false := by simp; omega
  have d3 : decide (nx < 1) = false := by simp; omega
  have d4 : decide (1048576 < nx) = false := by simp; omega
  go_enter Tryd.func8, Tryd.ntmps8
  go_wp2
  have hW0 : ∃ W0 : World, W0 = w.alloc (.cells #[.int .i64 ep, .int .i64 nx, .slice a l.length c] 33) := ⟨_, rfl⟩
  obtain ⟨W0, hW0⟩ := hW0
  have HW0 := hid hW0
  go_loopw [3] (fun i wr => ∃ k : Nat, i = .int .i64 k ∧ k ≤ l.length ∧ goF ep nx (l.take k) (l.drop k) = goF ep nx [] l ∧ Below (w.heap.size + 1) W0 wr) (fun i _ => l.length - (intOf i).toNat)
  case atStart => exact ⟨0, rfl, Nat.zero_le _, rfl, by rw [HW0.out]; exact Below.refl _ _⟩
  case round =>
    obtain ⟨k, rfl, hk, hsame, hB⟩ := hrel
    have HSm := hid hsame
    clear hsame
    obtain ⟨hc, hf⟩ := bcell hB
    have hsz := hB.size
    subst hW0
    simp at hsz
    have hB0 : Below w.heap.size w wr := ((Below.refl _ _).alloc (Nat.le_refl _) _).trans (hB.mono (by omega))
    by_cases hlt : k < l.length
    · obtain ⟨b, off, rfl, hb, hrow⟩ := HOP.out (by omega)
      obtain ⟨x, hx⟩ := get_lt hlt
      obtain ⟨g0, g1, g2, g3⟩ := row4 hrow hx
      have HD := hid (drop_get hx)
      have HX := hid hx
      have HS := hid (take_snoc l k x hx)
      clear hx
      have z0 : w.heap.size < wr.heap.size := by omega
      have z1 : b < wr.heap.size := by omega
      have hBX : Below (w.heap.size + 1) (w.alloc (.cells #[.int .i64 ep, .int .i64 nx, .slice (some ⟨b, off, none⟩) l.length c] 33)) (wr.alloc (.cells #[.int .i64 x.id, .int .u8 x.kind, .int .i64 x.key, .int .i64 x.sent] 45)) := hB.alloc (by omega) _
      obtain ⟨m, hm⟩ : ∃ m, wrap64 (x.id - ep * 1048576) = m := ⟨_, rfl⟩
      have HMM := hid hm
      by_cases e1 : 1 ≤ m
      · have f1 : decide (m < 1) = false := by simp; omega
        have E1 := hid e1
        by_cases e2 : m < nx
        · have f2 : decide (nx ≤ m) = false := by simp; omega
          have E2 := hid e2
          by_cases e3 : k = 0
          · have f3 : decide (0 < k) = false := by simp; omega
            have HL : Hid (∀ y, (l.take k).getLast? = some y → y.id < x.id) := hid (by rw [e3]; intro y hy; simp at hy)
            clear e3
            by_cases e4 : kindB x.kind = true
            · have HKD := hid e4
              clear e4
              by_cases e5 : numB x.key = true
              · have HKY := hid e5
                clear e5
                by_cases e6 : numB x.sent = true
                · have HSN := hid e6
                  clear e6
                  go_wp2
                  go_quiet ((first | (go_at_call 18; exact quiet_left (rkind_at _ true HKD.out _)) | (go_at_call_of 19 (Value.int .i64 x.key); exact quiet_left (rnum_at _ true HKY.out _)) | (go_at_call 19; exact quiet_left (rnum_at _ true HSN.out _))))
                  go_wp2
                  obtain ⟨wo, rfl⟩ : ∃ wo : World, wo = wr := ⟨_, rfl⟩
                  obtain ⟨W2, hW2⟩ : ∃ W2 : World, W2 = (wo.alloc (.cells #[.int .i64 x.id, .int .u8 x.kind, .int .i64 x.key, .int .i64 x.sent] 45)).drewN nq := ⟨_, rfl⟩
                  have HW2 := hid hW2
                  go_loopw [6] (fun i wr => ∃ j : Nat, i = .int .i64 j ∧ j ≤ k ∧ hasB (l.take j) x.kind x.key = false ∧ Below (wo.heap.size + 1) W2 wr) (fun i _ => k - (intOf i).toNat)
                  case atStart => exact ⟨0, rfl, Nat.zero_le _, rfl, by rw [HW2.out]; exact Below.refl _ _⟩
                  case round =>
                    obtain ⟨j, rfl, hj, hno, hB3⟩ := hrel
                    have HN := hid hno
                    clear hno
                    obtain ⟨hc3, hf3⟩ := bcell hB3
                    have hsz3 := hB3.size
                    subst hW2
                    simp at hsz3
                    have hBend : Below (w.heap.size + 1) (w.alloc (.cells #[.int .i64 ep, .int .i64 nx, .slice (some ⟨b, off, none⟩) l.length c] 33)) wr := (below_drewN hBX nq).trans (hB3.mono (by omega))
                    have hBend0 : Below w.heap.size w wr := ((Below.refl _ _).alloc (Nat.le_refl _) _).trans (hBend.mono (by omega))
                    have z2 : w.heap.size < wo.heap.size + 1 := by omega
                    have z3 : b < wo.heap.size + 1 := by omega
                    by_cases hjk : j < k
                    · obtain ⟨v, hv⟩ := get_lt (show j < l.length by omega)
                      obtain ⟨v0, v1, v2, v3⟩ := row4 hrow hv
                      have HV := hid hv
                      have HSV := hid (take_snoc l j v hv)
                      have HTK : Hid ((l.take (k))[j]? = some v) := hid (by rw [List.getElem?_take, if_pos hjk]; exact hv)
                      clear hv
                      have s5 : (j : Int) < (l.length : Int) := by omega
                      by_cases k1 : v.kind = x.kind
                      · have t1 : (v.kind == x.kind) = true := by simpa using k1
                        have K1 := hid k1
                        clear k1
                        by_cases k2 : v.key = x.key
                        · have t2 : (v.key == x.key) = true := by simpa using k2
                          have K2 := hid k2
                          clear k2
                          go_wp2
                          go_quiet (fail)
                          go_wp2
                          go_ret
                          refine ⟨ret_bool ?_, below_drewN hBend0 _⟩
                          rw [← HSm.out, HD.out]
                          refine (goF_not (refAt_not fun h => ?_)).symm
                          have h7 := h.2.2.2.2.2.2
                          rw [hasB_at HTK.out K1.out K2.out] at h7
                          cases h7
                        · have t2 : (v.key == x.key) = false := by simpa using k2
                          have K2 := hid t2
                          clear k2
                          go_wp2
                          go_quiet (fail)
                          go_wp2
                          go_roundw
                          case rel => exact ⟨j + 1, by go_num, by omega, by rw [HSV.out, hasB_snoc, HN.out, K2.out]; simp, below_drewN hB3 _⟩
                          case measure => simp [intOf]; omega
                      · have t1 : (v.kind == x.kind) = false := by simpa using k1
                        have K1 := hid t1
                        clear k1
                        go_wp2
                        go_quiet (fail)
                        go_wp2
                        go_roundw
                        case rel => exact ⟨j + 1, by go_num, by omega, by rw [HSV.out, hasB_snoc, HN.out, K1.out]; simp, below_drewN hB3 _⟩
                        case measure => simp [intOf]; omega
                    · have hje : j = k := by omega
                      have HJE := hid hje
                      clear hje
                      have HNK : Hid (hasB (l.take (k)) x.kind x.key = false) := hid (by rw [← HJE.out]; exact HN.out)
                      go_wp2
                      go_roundw
                      case rel =>
                        refine ⟨k + 1, by go_num, by omega, ?_, hBend⟩
                        rw [← HSm.out, HD.out, goF_step (refAt_yes ⟨by rw [HMM.out]; exact E1.out, by rw [HMM.out]; exact E2.out, HL.out, HKD.out, HKY.out, HSN.out, HNK.out⟩), HS.out]
                      case measure => simp [intOf]; omega
                · have HSN : Hid (numB x.sent = false) := hid (by simpa using e6)
                  clear e6
                  go_wp2
                  go_quiet ((first | (go_at_call 18; exact quiet_left (rkind_at _ true HKD.out _)) | (go_at_call_of 19 (Value.int .i64 x.key); exact quiet_left (rnum_at _ true HKY.out _)) | (go_at_call 19; exact quiet_left (rnum_at _ false HSN.out _))))
                  go_wp2
                  go_ret
                  refine ⟨ret_bool ?_, below_drewN (hB0.alloc (by omega) _) _⟩
                  rw [← HSm.out, HD.out]
                  refine (goF_not (refAt_not fun h => ?_)).symm
                  rw [HMM.out] at h
                  have h6 := h.2.2.2.2.2.1
                  rw [HSN.out] at h6; cases h6
              · have HKY : Hid (numB x.key = false) := hid (by simpa using e5)
                clear e5
                go_wp2
                go_quiet ((first | (go_at_call 18; exact quiet_left (rkind_at _ true HKD.out _)) | (go_at_call_of 19 (Value.int .i64 x.key); exact quiet_left (rnum_at _ false HKY.out _))))
                go_wp2
                go_ret
                refine ⟨ret_bool ?_, below_drewN (hB0.alloc (by omega) _) _⟩
                rw [← HSm.out, HD.out]
                refine (goF_not (refAt_not fun h => ?_)).symm
                rw [HMM.out] at h
                have h6 := h.2.2.2.2.1
                rw [HKY.out] at h6; cases h6
            · have HKD : Hid (kindB x.kind = false) := hid (by simpa using e4)
              clear e4
              go_wp2
              go_quiet ((first | (go_at_call 18; exact quiet_left (rkind_at _ false HKD.out _))))
              go_wp2
              go_ret
              refine ⟨ret_bool ?_, below_drewN (hB0.alloc (by omega) _) _⟩
              rw [← HSm.out, HD.out]
              refine (goF_not (refAt_not fun h => ?_)).symm
              rw [HMM.out] at h
              have h6 := h.2.2.2.1
              rw [HKD.out] at h6; cases h6
          · obtain ⟨k', rfl⟩ : ∃ k', k = k' + 1 := ⟨k - 1, by omega⟩
            obtain ⟨y, hy⟩ := get_lt (show k' < l.length by omega)
            obtain ⟨y0, y1, y2, y3⟩ := row4 hrow hy
            have HL0 := hid (last_take hy)
            clear hy e3
            have f3 : decide (0 < k' + 1) = true := by simp
            have s1 : IntKind.i64.wrap (((k' + 1 : Nat) : Int) - 1) = (k' : Int) := by rw [show (((k' + 1 : Nat) : Int) - 1) = (k' : Int) by omega]; exact IntWalk.i64_in _ (by omega)
            have s2 : (k' : Int) < (l.length : Int) := by omega
            by_cases e7 : y.id < x.id
            · have f4 : decide (x.id ≤ y.id) = false := by simp; omega
              have HL : Hid (∀ y, (l.take (k' + 1)).getLast? = some y → y.id < x.id) := hid (by rw [HL0.out]; intro z hz; cases hz; exact e7)
              by_cases e4 : kindB x.kind = true
              · have HKD := hid e4
                clear e4
                by_cases e5 : numB x.key = true
                · have HKY := hid e5
                  clear e5
                  by_cases e6 : numB x.sent = true
                  · have HSN := hid e6
                    clear e6
                    go_wp2
                    go_quiet ((first | (go_at_call 18; exact quiet_left (rkind_at _ true HKD.out _)) | (go_at_call_of 19 (Value.int .i64 x.key); exact quiet_left (rnum_at _ true HKY.out _)) | (go_at_call 19; exact quiet_left (rnum_at _ true HSN.out _))))
                    go_wp2
                    obtain ⟨wo, rfl⟩ : ∃ wo : World, wo = wr := ⟨_, rfl⟩
                    obtain ⟨W2, hW2⟩ : ∃ W2 : World, W2 = (wo.alloc (.cells #[.int .i64 x.id, .int .u8 x.kind, .int .i64 x.key, .int .i64 x.sent] 45)).drewN nq := ⟨_, rfl⟩
                    have HW2 := hid hW2
                    go_loopw [6] (fun i wr => ∃ j : Nat, i = .int .i64 j ∧ j ≤ (k' + 1) ∧ hasB (l.take j) x.kind x.key = false ∧ Below (wo.heap.size + 1) W2 wr) (fun i _ => (k' + 1) - (intOf i).toNat)
                    case atStart => exact ⟨0, rfl, Nat.zero_le _, rfl, by rw [HW2.out]; exact Below.refl _ _⟩
                    case round =>
                      obtain ⟨j, rfl, hj, hno, hB3⟩ := hrel
                      have HN := hid hno
                      clear hno
                      obtain ⟨hc3, hf3⟩ := bcell hB3
                      have hsz3 := hB3.size
                      subst hW2
                      simp at hsz3
                      have hBend : Below (w.heap.size + 1) (w.alloc (.cells #[.int .i64 ep, .int .i64 nx, .slice (some ⟨b, off, none⟩) l.length c] 33)) wr := (below_drewN hBX nq).trans (hB3.mono (by omega))
                      have hBend0 : Below w.heap.size w wr := ((Below.refl _ _).alloc (Nat.le_refl _) _).trans (hBend.mono (by omega))
                      have z2 : w.heap.size < wo.heap.size + 1 := by omega
                      have z3 : b < wo.heap.size + 1 := by omega
                      by_cases hjk : j < (k' + 1)
                      · obtain ⟨v, hv⟩ := get_lt (show j < l.length by omega)
                        obtain ⟨v0, v1, v2, v3⟩ := row4 hrow hv
                        have HV := hid hv
                        have HSV := hid (take_snoc l j v hv)
                        have HTK : Hid ((l.take ((k' + 1)))[j]? = some v) := hid (by rw [List.getElem?_take, if_pos hjk]; exact hv)
                        clear hv
                        have s5 : (j : Int) < (l.length : Int) := by omega
                        by_cases k1 : v.kind = x.kind
                        · have t1 : (v.kind == x.kind) = true := by simpa using k1
                          have K1 := hid k1
                          clear k1
                          by_cases k2 : v.key = x.key
                          · have t2 : (v.key == x.key) = true := by simpa using k2
                            have K2 := hid k2
                            clear k2
                            go_wp2
                            go_quiet (fail)
                            go_wp2
                            go_ret
                            refine ⟨ret_bool ?_, below_drewN hBend0 _⟩
                            rw [← HSm.out, HD.out]
                            refine (goF_not (refAt_not fun h => ?_)).symm
                            have h7 := h.2.2.2.2.2.2
                            rw [hasB_at HTK.out K1.out K2.out] at h7
                            cases h7
                          · have t2 : (v.key == x.key) = false := by simpa using k2
                            have K2 := hid t2
                            clear k2
                            go_wp2
                            go_quiet (fail)
                            go_wp2
                            go_roundw
                            case rel => exact ⟨j + 1, by go_num, by omega, by rw [HSV.out, hasB_snoc, HN.out, K2.out]; simp, below_drewN hB3 _⟩
                            case measure => simp [intOf]; omega
                        · have t1 : (v.kind == x.kind) = false := by simpa using k1
                          have K1 := hid t1
                          clear k1
                          go_wp2
                          go_quiet (fail)
                          go_wp2
                          go_roundw
                          case rel => exact ⟨j + 1, by go_num, by omega, by rw [HSV.out, hasB_snoc, HN.out, K1.out]; simp, below_drewN hB3 _⟩
                          case measure => simp [intOf]; omega
                      · have hje : j = (k' + 1) := by omega
                        have HJE := hid hje
                        clear hje
                        have HNK : Hid (hasB (l.take ((k' + 1))) x.kind x.key = false) := hid (by rw [← HJE.out]; exact HN.out)
                        go_wp2
                        go_roundw
                        case rel =>
                          refine ⟨(k' + 1) + 1, by go_num, by omega, ?_, hBend⟩
                          rw [← HSm.out, HD.out, goF_step (refAt_yes ⟨by rw [HMM.out]; exact E1.out, by rw [HMM.out]; exact E2.out, HL.out, HKD.out, HKY.out, HSN.out, HNK.out⟩), HS.out]
                        case measure => simp [intOf]; omega
                  · have HSN : Hid (numB x.sent = false) := hid (by simpa using e6)
                    clear e6
                    go_wp2
                    go_quiet ((first | (go_at_call 18; exact quiet_left (rkind_at _ true HKD.out _)) | (go_at_call_of 19 (Value.int .i64 x.key); exact quiet_left (rnum_at _ true HKY.out _)) | (go_at_call 19; exact quiet_left (rnum_at _ false HSN.out _))))
                    go_wp2
                    go_ret
                    refine ⟨ret_bool ?_, below_drewN (hB0.alloc (by omega) _) _⟩
                    rw [← HSm.out, HD.out]
                    refine (goF_not (refAt_not fun h => ?_)).symm
                    rw [HMM.out] at h
                    have h6 := h.2.2.2.2.2.1
                    rw [HSN.out] at h6; cases h6
                · have HKY : Hid (numB x.key = false) := hid (by simpa using e5)
                  clear e5
                  go_wp2
                  go_quiet ((first | (go_at_call 18; exact quiet_left (rkind_at _ true HKD.out _)) | (go_at_call_of 19 (Value.int .i64 x.key); exact quiet_left (rnum_at _ false HKY.out _))))
                  go_wp2
                  go_ret
                  refine ⟨ret_bool ?_, below_drewN (hB0.alloc (by omega) _) _⟩
                  rw [← HSm.out, HD.out]
                  refine (goF_not (refAt_not fun h => ?_)).symm
                  rw [HMM.out] at h
                  have h6 := h.2.2.2.2.1
                  rw [HKY.out] at h6; cases h6
              · have HKD : Hid (kindB x.kind = false) := hid (by simpa using e4)
                clear e4
                go_wp2
                go_quiet ((first | (go_at_call 18; exact quiet_left (rkind_at _ false HKD.out _))))
                go_wp2
                go_ret
                refine ⟨ret_bool ?_, below_drewN (hB0.alloc (by omega) _) _⟩
                rw [← HSm.out, HD.out]
                refine (goF_not (refAt_not fun h => ?_)).symm
                rw [HMM.out] at h
                have h6 := h.2.2.2.1
                rw [HKD.out] at h6; cases h6
            · have f4 : decide (x.id ≤ y.id) = true := by simp; omega
              have E7 := hid e7
              go_wp2
              go_quiet (fail)
              go_wp2
              go_ret
              refine ⟨ret_bool ?_, below_drewN (hB0.alloc (by omega) _) _⟩
              rw [← HSm.out, HD.out]
              refine (goF_not (refAt_not fun h => ?_)).symm
              rw [HMM.out] at h
              have h7 := h.2.2.1 y HL0.out
              have h8 := E7.out
              omega
        · have f2 : decide (nx ≤ m) = true := by simp; omega
          have E2 := hid e2
          go_wp2
          go_quiet (fail)
          go_wp2
          go_ret
          refine ⟨ret_bool ?_, below_drewN (hB0.alloc (by omega) _) _⟩
          rw [← HSm.out, HD.out]
          refine (goF_not (refAt_not fun h => ?_)).symm
          rw [HMM.out] at h
          have h7 := h.2.1
          have h8 := E2.out
          omega
      · have f1 : decide (m < 1) = true := by simp; omega
        have E1 := hid e1
        go_wp2
        go_quiet (fail)
        go_wp2
        go_ret
        refine ⟨ret_bool ?_, below_drewN (hB0.alloc (by omega) _) _⟩
        rw [← HSm.out, HD.out]
        refine (goF_not (refAt_not fun h => ?_)).symm
        rw [HMM.out] at h
        have h7 := h.1
        have h8 := E1.out
        omega
    · obtain rfl : k = l.length := by omega
      go_wp2
      go_ret
      refine ⟨ret_bool ?_, hB0⟩
      rw [← HSm.out, List.drop_length]; rfl
end Go.Proofs.YtljmhmdpihpafaaDoor
