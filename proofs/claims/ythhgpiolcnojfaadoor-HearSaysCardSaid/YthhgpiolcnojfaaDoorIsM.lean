
import Derived.Test.YthhgpiolcnojfaaDoorOf
import Derived.Deep.RegionHeld3
/- Is tells whether a duty is one of a brain's; slices.Contains, Index of duties. -/
namespace Go.Proofs.YthhgpiolcnojfaaDoor
open Go.RowKit Go.Shelf

def sameD (x y : DutyV) : Bool := x.kind == y.kind && x.key == y.key
theorem sameD_iff {x y : DutyV} : sameD x y = true ↔ x = y := by
  cases x; cases y; simp [sameD]
theorem sameD_no {x y : DutyV} (h : ¬ x = y) : sameD x y = false := by
  apply Bool.eq_false_iff.2; intro e; exact h (sameD_iff.1 e)
theorem eqD_run (x y : DutyV) (w : World) : (binOp .eql 71 (.agg #[.int .u8 x.kind, .int .i64 x.key]) (.agg #[.int .u8 y.kind, .int .i64 y.key])).run Tryd.prog w = .ok (.bool (sameD x y)) w := by
  simp [go_sem]
  by_cases h1 : x.kind = y.kind <;> by_cases h2 : x.key = y.key <;> simp [sameD, h1, h2]

theorem dec_int {a b : Bool} (h : a = b) : Value.bool a = .bool b := by rw [h]
/-- Where a duty lies; below 0: nowhere. -/
def IdxEnd (L : List DutyV) (d : DutyV) (e : Ending) : Prop := ∃ r : Int, e = .returned (.int .i64 r) ∧ (0 ≤ r ↔ d ∈ L)
theorem not_taken {L : List DutyV} {d : DutyV} {k : Nat} {x : DutyV} (hx : L[k]? = some x) (h : ∀ y ∈ L.take k, ¬ y = d) (hne : ¬ x = d) : ∀ y ∈ L.take (k + 1), ¬ y = d := by
  rw [take_snoc L k x hx]
  intro y hy
  rcases List.mem_append.1 hy with h1 | h1
  · exact h y h1
  · simp at h1; rw [h1]; exact hne

set_option maxHeartbeats 400000 in
set_option maxRecDepth 10000 in
theorem indexD_any (s : Value) (L : List DutyV) (d : DutyV) (w : World) (hs : RowOf 2 encD w s L) (hL : L.length ≤ 1000000) :
    Calls Tryd.prog 35 #[s, encDv d] w fun e w' => IdxEnd L d e ∧ Below w.heap.size w w' := by
  obtain ⟨a, c, rfl, hl1, hl2, hl3, hop⟩ := hs.open
  have HOP := hid hop
  have Z0 : Below w.heap.size w (w.alloc (.cells #[.int .u8 d.kind, .int .i64 d.key] 71)) := (Below.refl _ _).alloc (Nat.le_refl _) _
  clear hop hs
  unfold encDv
  go_enter Tryd.func35, Tryd.ntmps35
  go_wp2
  go_loopw [8] (fun i wr => ∃ k : Nat, k ≤ L.length ∧ i = .int .i64 k ∧ (∀ y ∈ L.take k, ¬ y = d) ∧ Below (w.heap.size + 1) (w.alloc (.cells #[.int .u8 d.kind, .int .i64 d.key] 71)) wr) (fun i _ => L.length - (intOf i).toNat)
  case atStart => exact ⟨0, Nat.zero_le _, rfl, by simp, Below.refl _ _⟩
  case round =>
    obtain ⟨k, hk, rfl, htk, hB⟩ := hrel
    have HT := hid htk
    clear htk
    obtain ⟨hc, hf⟩ := bcell hB
    have hsz := hB.size
    simp at hsz
    have hBz : Below w.heap.size w wr := Z0.trans (hB.mono (by omega))
    by_cases hlt : k < L.length
    · obtain ⟨b1, o1, rfl, hb1, hr1⟩ := HOP.out (by omega)
      obtain ⟨x, hx⟩ := get_lt hlt
      obtain ⟨g0, g1⟩ := rowD hr1 hx
      have HX := hid hx
      have hkL : (k : Int) < (L.length : Int) := by omega
      clear hx
      have heq := eqD_run d x
      by_cases hxd : d = x
      · rw [sameD_iff.2 hxd] at heq
        have HXD := hid hxd
        clear hxd
        go_wp2
        go_quiet (fail)
        go_wp2
        go_ret
        exact ⟨⟨_, rfl, by simp; rw [HXD.out]; exact mem_get HX.out⟩, below_drewN hBz _⟩
      · rw [sameD_no hxd] at heq
        have HXD := hid hxd
        clear hxd
        go_wp2
        go_quiet (fail)
        go_wp2
        go_roundw
        case rel => exact ⟨k + 1, by omega, by go_num, not_taken HX.out HT.out (fun e => HXD.out e.symm), below_drewN hB _⟩
        case measure => simp [intOf]; omega
    · obtain rfl : k = L.length := by omega
      go_wp2
      go_ret
      refine ⟨⟨_, rfl, by simp; intro hd; exact HT.out d (by rw [List.take_length]; exact hd) rfl⟩, hBz⟩

theorem containsD_any (s : Value) (L : List DutyV) (d : DutyV) (w : World) (hs : RowOf 2 encD w s L) (hL : L.length ≤ 1000000) :
    Calls Tryd.prog 26 #[s, encDv d] w fun e w' => e = .returned (.bool (decide (d ∈ L))) ∧ Below w.heap.size w w' := by
  have Z0 : Below w.heap.size w (w.alloc (.cells #[.int .u8 d.kind, .int .i64 d.key] 71)) := (Below.refl _ _).alloc (Nat.le_refl _) _
  have HC := hid (indexD_any s L d _ (hs.below Z0) hL)
  have HZ := hid Z0
  clear hs Z0
  unfold encDv at HC ⊢
  go_enter Tryd.func26, Tryd.ntmps26
  go_wp2_with fail
  refine HC.out.mono ?_
  rintro e w1 ⟨⟨r, rfl, hr⟩, hb⟩
  go_wp2
  go_ret
  refine ⟨ret_bool ?_, HZ.out.trans (hb.mono HZ.out.size)⟩
  by_cases h : d ∈ L
  · simp [h]
  · simp [h]
end Go.Proofs.YthhgpiolcnojfaaDoor

/- duty.Is. -/
namespace Go.Proofs.YthhgpiolcnojfaaDoor
open Go.RowKit Go.Shelf
attribute [-go_sem] loadVar
attribute [local go_sem] load_other

set_option maxHeartbeats 2000000 in
set_option maxRecDepth 100000 in
theorem is_any (cs : Array Value) (iv kv : Value) (hcs : BC cs iv kv) (I : List IntentV) (K : List KeptV) (d : DutyV) (w : World) (hl1 : I.length ≤ 1000) (hl2 : K.length ≤ 1000) (hwf : ∀ x ∈ K, in8 x.phase)
    (hA : Asked w) (hI : RowOf 4 encIn w iv I) (hK : RowOf 8 encKp w kv K) :
    Calls Tryd.prog 19 #[.agg cs, encDv d] w fun e w' => e = .returned (.bool (decide (d ∈ dutiesL I K))) ∧ Below w.heap.size w w' := by
  have HN := hid (duties_len I K)
  have HCS := hid hcs
  have HWF := hid hwf
  obtain ⟨W1, hW1⟩ : ∃ W1, W1 = (w.alloc (.cells cs 48)).alloc (.cells #[.int .u8 d.kind, .int .i64 d.key] 71) := ⟨_, rfl⟩
  have hB1 : Below w.heap.size w W1 := by rw [hW1]; exact ((Below.refl _ _).alloc (Nat.le_refl _) _).alloc (by simp) _
  have BX := hid (show BB W1 w.heap.size cs by rw [hW1]; exact (BB.new w cs).below ((Below.refl _ _).alloc (Nat.le_refl _) _) (by simp))
  have BD := hid (show W1.heap[w.heap.size + 1]? = some (.cells #[.int .u8 d.kind, .int .i64 d.key] 71) by rw [hW1]; exact heap_new2 _ _ _)
  have AS := hid (hA.below hB1)
  have RI := hid (RowOf.below hI hB1)
  have RK := hid (RowOf.below hK hB1)
  have Z := hid hB1
  clear hB1 hA hI hK hcs hwf
  obtain ⟨Ev, hEvdef⟩ : ∃ Ev : World → Prop, Ev = fun W => W.heap[w.heap.size + 1]? = some (.cells #[.int .u8 d.kind, .int .i64 d.key] 71) ∧ BB W w.heap.size cs ∧ Asked W ∧ RowOf 4 encIn W iv I ∧ RowOf 8 encKp W kv K ∧ Below w.heap.size w W := ⟨_, rfl⟩
  have hEv0 : Ev W1 := by rw [hEvdef]; exact ⟨BD.out, BX.out, AS.out, RI.out, RK.out, Z.out⟩
  have hEvk : ∀ W W', Below W.heap.size W W' → Ev W → Ev W' := by
    rw [hEvdef]
    rintro W W' hb ⟨q0, q1, q2, q3, q4, q5⟩
    exact ⟨blk_below q0 hb (blk_lt q0), BB.below q1 hb (blk_lt q1), Asked.below q2 hb, RowOf.below q3 hb, RowOf.below q4 hb, q5.trans (hb.mono q5.size)⟩
  have hEv_BX : ∀ W, Ev W → BB W w.heap.size cs := by
    rw [hEvdef]
    rintro W ⟨q0, q1, q2, q3, q4, q5⟩
    exact q1
  have hEv_AS : ∀ W, Ev W → Asked W := by
    rw [hEvdef]
    rintro W ⟨q0, q1, q2, q3, q4, q5⟩
    exact q2
  have hEv_RI : ∀ W, Ev W → RowOf 4 encIn W iv I := by
    rw [hEvdef]
    rintro W ⟨q0, q1, q2, q3, q4, q5⟩
    exact q3
  have hEv_RK : ∀ W, Ev W → RowOf 8 encKp W kv K := by
    rw [hEvdef]
    rintro W ⟨q0, q1, q2, q3, q4, q5⟩
    exact q4
  have hEv_Z : ∀ W, Ev W → Below w.heap.size w W := by
    rw [hEvdef]
    rintro W ⟨q0, q1, q2, q3, q4, q5⟩
    exact q5
  have hEv_BD : ∀ W, Ev W → W.heap[w.heap.size + 1]? = some (.cells #[.int .u8 d.kind, .int .i64 d.key] 71) := by
    rw [hEvdef]
    rintro W ⟨q0, q1, q2, q3, q4, q5⟩
    exact q0
  have hEvc : ∀ W, Ev W → W.cell? ⟨w.heap.size + 1, 0, none⟩ = some (.int .u8 d.kind) ∧ W.cell? ⟨w.heap.size + 1, 1, none⟩ = some (.int .i64 d.key) ∧ (loadVar 48 ⟨w.heap.size, 0, none⟩).run Tryd.prog W = .ok (.agg cs) W := by
    rw [hEvdef]
    rintro W ⟨q0, q1, q2, q3, q4, q5⟩
    exact ⟨blk_cell q0 0, blk_cell q0 1, BB.load q1 HCS.out⟩
  have hEvs : ∀ W W', Below W.heap.size W W' → Ev W → Ev W' ∧ W'.cell? ⟨w.heap.size + 1, 0, none⟩ = some (.int .u8 d.kind) ∧ W'.cell? ⟨w.heap.size + 1, 1, none⟩ = some (.int .i64 d.key) ∧ (loadVar 48 ⟨w.heap.size, 0, none⟩).run Tryd.prog W' = .ok (.agg cs) W' := fun W W' hb h => ⟨hEvk W W' hb h, hEvc W' (hEvk W W' hb h)⟩
  have Ev_0 := hid hEv0
  have Ev_S := hid hEvs
  have Ev_K := hid hEvk
  have Ev_C := hid hEvc
  have Ev_BX := hid hEv_BX
  have Ev_AS := hid hEv_AS
  have Ev_RI := hid hEv_RI
  have Ev_RK := hid hEv_RK
  have Ev_Z := hid hEv_Z
  have Ev_BD := hid hEv_BD
  have Ev_D := hid hEvdef
  clear BD BX AS RI RK Z hEv0 hEvk hEvs hEvdef hEv_BX hEv_AS hEv_RI hEv_RK hEv_Z hEv_BD hEvc
  unfold encDv
  go_enter Tryd.func19, Tryd.ntmps19
  go_wp2_with fail
  rw [← hW1]
  clear hW1
  go_region_held3 (fun W => Ev W ∧ W.cell? ⟨w.heap.size + 1, 0, none⟩ = some (.int .u8 d.kind) ∧ W.cell? ⟨w.heap.size + 1, 1, none⟩ = some (.int .i64 d.key) ∧ (loadVar 48 ⟨w.heap.size, 0, none⟩).run Tryd.prog W = .ok (.agg cs) W) (first | exact Ev_S.out _ _ (below_drewN (Below.refl _ _) 1) Ev_0.out | (go_split_ands; exact Ev_S.out _ _ (below_drewN (Below.refl _ _) 1) (by assumption)) | (go_split_ands; exact Ev_S.out _ _ hbt (by assumption)) | (go_split_ands; exact Ev_S.out _ _ hbu (by assumption))) (first | (go_at_call 27; go_split_ands; refine (of_any _ iv kv HCS.out I K _ hl1 hl2 HWF.out (Ev_AS.out _ (by assumption)) (Ev_RI.out _ (by assumption)) (Ev_RK.out _ (by assumption))).mono ?_; rintro e x1 ⟨v, rfl, hov, hbt⟩) | (go_at_call 26; go_split_ands; refine (containsD_any _ _ d _ (hov.row encD_len (by decide)) (by have := HN.out; omega)).mono ?_; rintro e x2 ⟨rfl, hbu⟩))
  go_split_ands
  go_wp2
  go_ret
  exact ⟨rfl, Ev_Z.out _ (by assumption)⟩
end Go.Proofs.YthhgpiolcnojfaaDoor
