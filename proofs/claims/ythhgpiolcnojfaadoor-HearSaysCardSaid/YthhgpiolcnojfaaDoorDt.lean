
/- duties goes over a brain's duties. -/
import Derived.Test.YthhgpiolcnojfaaDoorBr
import Derived.Test.YthhgpiolcnojfaaDoorCol
namespace Go.Proofs.YthhgpiolcnojfaaDoor
open Go.RowKit Go.Shelf
attribute [local go_sem] Oper.semAt_some

def itemD (x : DutyV) : Array Value := #[encDv x]

theorem keptD_take {K : List KeptV} {k : Nat} {x : KeptV} (hx : K[k]? = some x) : (K.take (k + 1)).flatMap keptD = (K.take k).flatMap keptD ++ keptD x := by
  rw [take_snoc K k x hx, List.flatMap_append]; simp
theorem intentD_take {I : List IntentV} {k : Nat} {x : IntentV} (hx : I[k]? = some x) : (I.take (k + 1)).map intentD = (I.take k).map intentD ++ [intentD x] := by
  rw [take_snoc I k x hx, List.map_append]; simp
theorem duties_left {I : List IntentV} {K : List KeptV} {k : Nat} {x : KeptV} (hx : K[k]? = some x) (hs : askedB x.phase = true) : (I.map intentD ++ (K.take k).flatMap keptD).length < (dutiesL I K).length := by
  unfold dutiesL
  have e1 : K.flatMap keptD = (K.take (k + 1)).flatMap keptD ++ (K.drop (k + 1)).flatMap keptD := by rw [← List.flatMap_append, List.take_append_drop]
  rw [e1, keptD_take hx]
  simp [keptD, hs]
theorem duties_left1 {I : List IntentV} {K : List KeptV} {k : Nat} (hk : k < I.length) : ((I.take k).map intentD).length < (dutiesL I K).length := by
  unfold dutiesL
  simp
  omega

set_option maxRecDepth 100000 in
set_option maxHeartbeats 2000000 in
theorem duties1_in (n : Nat) (hn : 1 ≤ n) (l Bb : Nat) (S : Nat → Prop) (a1 : Option Addr) (c1 : Nat) (a2 : Option Addr) (c2 : Nat) (I : List IntentV) (K : List KeptV) (J Jx : List DutyV → World → Prop)
    (hl1 : I.length ≤ 1000000) (hl2 : K.length ≤ 1000000) (_hc1 : c1 ≤ 9223372036854775807) (_hc2 : c2 ≤ 9223372036854775807) (hwf : ∀ x ∈ K, in8 x.phase)
    (W : World) (hS : ∀ k, S k → k < W.heap.size) (hJ : AbidesFrom W.heap.size J)
    (hY : ∀ pre x W, J pre W → pre.length < (dutiesL I K).length → YieldAt Fence.wide (n - 1) Tryd.prog l (itemD x) W fun e W' =>
      (e = .returned (.bool true) ∧ J (pre ++ [x]) W' ∧ On S W W') ∨ (e = .returned (.bool false) ∧ Jx (pre ++ [x]) W'))
    (hBb : S Bb) (hi : W.cell? ⟨Bb, 18, none⟩ = some (.slice a1 I.length c1)) (hk : W.cell? ⟨Bb, 19, none⟩ = some (.slice a2 K.length c2))
    (bm : Nat) (hg : S 0) (hgc : W.cell? ⟨0, 0, none⟩ = some (.map (some bm)))
    (hlk : ∀ w' : World, On S W w' → ∀ p : Int, in8 p → (Instr.lookup 107 (.map (some bm)) (.int .u8 p) true).run Tryd.prog w' = .ok (.tuple #[.int .u8 (askedK p), .bool (askedB p)]) w')
    (hop : 0 < I.length → ∃ b off, a1 = some ⟨b, off, none⟩ ∧ S b ∧ RowAt 4 encIn W b off I) (hoq : 0 < K.length → ∃ b off, a2 = some ⟨b, off, none⟩ ∧ S b ∧ RowAt 8 encKp W b off K) (h0 : J [] W) :
    CallsIn Fence.wide n Tryd.prog 46 #[.func (.yield l) #[] #[], .pointer (some ⟨Bb, 0, none⟩)] W fun e W' => (∃ v, e = .returned v) ∧
      ((∃ ys, ys = dutiesL I K ∧ J ys W') ∨ (∃ pre, True ∧ Jx pre W')) := by
  have HOP := hid hop
  have HOQ := hid hoq
  have HY := hid hY
  have HLK := hid hlk
  have HWF := hid hwf
  clear hop hoq hY hlk hwf
  refine callsIn_of_wp Tryd.func46 rfl trivial ?_ rfl
  simp only [Tryd.ntmps46, List.size_toArray, List.length_cons, List.length_nil, Nat.reduceAdd, Nat.reduceSub, Array.replicate_succ, Array.replicate_zero, List.push_toArray, List.append_toArray, List.nil_append, List.cons_append]
  gi_wp2
  gi_loopw [12] (fun i wr => ∃ k : Nat, k ≤ I.length ∧ i = .int .i64 k ∧ J ((I.take k).map intentD) wr ∧ On S W wr)
    (fun i _ => I.length - (intOf i).toNat)
  case atStart => exact ⟨0, Nat.zero_le _, rfl, h0, On.refl _ _⟩
  case round =>
    obtain ⟨k, hk1, rfl, hJs, hB⟩ := hrel
    have hsz := hB.size
    have hcr := (hB.cell 18 hBb (hS _ hBb)).trans hi
    have hkr := (hB.cell 19 hBb (hS _ hBb)).trans hk
    by_cases hlt : k < I.length
    · obtain ⟨b, off, rfl, hb, hrow⟩ := HOP.out (by omega)
      obtain ⟨x, hx⟩ := get_lt hlt
      obtain ⟨g0, g1, g2, g3⟩ := rowI (hrow.on hB hb (hS b hb)) hx
      have HS := hid (intentD_take hx)
      clear hx
      have hb0 := hS b hb
      have hb1 : b < wr.heap.size := by omega
      have hJ2 := hJ _ _ _ none hJs (grown_of_below ((Below.refl _ _).alloc (Nat.le_refl _) (.cells #[.int .i64 x.token, .int .i64 x.version, .int .i64 x.zone, .bool x.warm] 81)) none) (by simp)
      obtain ⟨fn, tmps, assign, body, hy, hR⟩ := HY.out _ (intentD x) _ hJ2 (duties_left1 hlt)
      dsimp only [itemD, encDv, intentD] at hy
      have HR := hid hR
      clear hR
      gi_wp2
      refine HR.out.mono ?_
      rintro e W3 (⟨rfl, hJ3, hk3⟩ | ⟨rfl, hJx3⟩)
      · gi_wp2
        go_roundw
        case rel =>
          refine ⟨k + 1, by omega, by simp, ?_, (hB.alloc _).trans hk3⟩
          rw [HS.out]; exact hJ3
        case measure => simp [intOf]; omega
      · gi_wp2
        refine bodyPost_ret (results_none rfl _ _ _) rfl ?_
        exact ⟨⟨_, rfl⟩, .inr ⟨_, trivial, hJx3⟩⟩
    · obtain rfl : k = I.length := by omega
      rw [List.take_length] at hJs
      have HJ0 := hid hJs
      have HB0 := hid hB
      clear hJs
      obtain ⟨wa, rfl⟩ : ∃ wo : World, wo = wr := ⟨_, rfl⟩
      gi_wp2
      gi_loopw [26] (fun i w2 => ∃ k : Nat, k ≤ K.length ∧ i = .int .i64 k ∧ J (I.map intentD ++ (K.take k).flatMap keptD) w2 ∧ On S W w2)
        (fun i _ => K.length - (intOf i).toNat)
      case atStart => exact ⟨0, Nat.zero_le _, rfl, by simpa using HJ0.out, HB0.out⟩
      case round =>
        clear hcr hkr hsz hB
        obtain ⟨k, hk1, rfl, hJs, hB⟩ := hrel
        have hsz := hB.size
        have hcr := (hB.cell 19 hBb (hS _ hBb)).trans hk
        by_cases hlt : k < K.length
        · obtain ⟨b, off, rfl, hb, hrow⟩ := HOQ.out (by omega)
          obtain ⟨x, hx⟩ := get_lt hlt
          obtain ⟨g0, g1, g2, g3, g4, g5, g6, g7⟩ := rowK (hrow.on hB hb (hS b hb)) hx
          have HS := hid (keptD_take hx)
          have HX := hid hx
          clear hx
          have hb0 := hS b hb
          have hb1 : b < wr.heap.size := by omega
          have hgl := hS _ hg
          have hgw : 0 < wr.heap.size := by omega
          have hgr : wr.cell? ⟨0, 0, none⟩ = some (.map (some bm)) := (hB.cell 0 hg hgl).trans hgc
          obtain ⟨U, hU⟩ : ∃ U, U = wr.alloc (.cells #[.int .i64 x.id, .int .i64 x.token, .int .i64 x.version, .int .i64 x.zone, .int .u8 x.phase, .int .i64 x.since, .bool x.guarded, .bool x.complete] 40) := ⟨_, rfl⟩
          have hBU : On S W U := by rw [hU]; exact hB.alloc _
          have hJ2 : J (I.map intentD ++ (K.take k).flatMap keptD) U := by rw [hU]; exact hJ _ _ _ none hJs (grown_of_below ((Below.refl _ _).alloc (Nat.le_refl _) _) none) (by simp)
          have hl := HLK.out U hBU x.phase (HWF.out x (mem_get HX.out))
          obtain ⟨kd, hkd⟩ : ∃ kd, askedK x.phase = kd := ⟨_, rfl⟩
          obtain ⟨bb, hbb⟩ : ∃ bb, askedB x.phase = bb := ⟨_, rfl⟩
          rw [hkd, hbb] at hl
          have HJ2 := hid hJ2
          have HBU := hid hBU
          have HBB := hid hbb
          have HKD := hid hkd
          clear hJ2 hBU hbb hkd
          cases bb with
          | true =>
            obtain ⟨fn, tmps, assign, body, hy, hR⟩ := HY.out _ (⟨kd, x.id⟩ : DutyV) _ HJ2.out (duties_left HX.out HBB.out)
            dsimp only [itemD, encDv] at hy
            have HR := hid hR
            clear hR
            rw [hU] at hl hy
            gi_wp2
            rw [← hU]
            refine HR.out.mono ?_
            rintro e W3 (⟨rfl, hJ3, hk3⟩ | ⟨rfl, hJx3⟩)
            · gi_wp2
              go_roundw
              case rel =>
                refine ⟨k + 1, by omega, by simp, ?_, HBU.out.trans hk3⟩
                rw [HS.out, keptD, HBB.out, HKD.out, ← List.append_assoc]; exact hJ3
              case measure => simp [intOf]; omega
            · gi_wp2
              refine bodyPost_ret (results_none rfl _ _ _) rfl ?_
              exact ⟨⟨_, rfl⟩, .inr ⟨_, trivial, hJx3⟩⟩
          | false =>
            rw [hU] at hl
            gi_wp2
            refine ⟨fun _ _ => trivial, ?_⟩
            gi_wp2
            rw [← hU]
            go_roundw
            case rel =>
              refine ⟨k + 1, by omega, by simp, ?_, HBU.out⟩
              rw [HS.out, keptD, HBB.out]; simpa using HJ2.out
            case measure => simp [intOf]; omega
        · obtain rfl : k = K.length := by omega
          rw [List.take_length] at hJs
          have HJ := hid hJs
          clear hJs
          gi_wp2
          go_end0
          exact ⟨⟨_, rfl⟩, .inl ⟨_, rfl, HJ.out⟩⟩

/-- **duties hands back a value that goes over a brain's duties, in order.** -/
theorem duties_stops (n : Nat) (hn : 1 ≤ n) (Bb : Nat) (S : Nat → Prop) (cs : Array Value) (iv kv : Value) (hcs : BC cs iv kv) (I : List IntentV) (K : List KeptV) (w : World) (hS : ∀ k, S k → k < w.heap.size)
    (hl1 : I.length ≤ 1000000) (hl2 : K.length ≤ 1000000) (hwf : ∀ x ∈ K, in8 x.phase) (hBb : S Bb) (hb : BB w Bb cs) (w0 : World) (h00 : w0.heap.size ≤ w.heap.size) (hB0 : Below w0.heap.size w0 w) (hS0 : ∀ k, k < w0.heap.size → S k)
    (hA : Asked w0) (hI : RowOf 4 encIn w0 iv I) (hK : RowOf 8 encKp w0 kv K) :
    SeqStopsK Fence.wide n Tryd.prog 46 #[.pointer (some ⟨Bb, 0, none⟩)] itemD (On S) (fun ys => ys = dutiesL I K) (fun _ => True) (dutiesL I K).length w := by
  intro l J Jx W hW hJ _ hY h0
  obtain ⟨a1, c1, rfl, hl1', hl2', hl3, hop⟩ := hI.open
  obtain ⟨a2, c2, rfl, hk1', hk2', hk3, hoq⟩ := hK.open
  have hO : On S w W := On.of_below hW hS
  have hW0 : Below w0.heap.size w0 W := hB0.trans (hW.mono h00)
  have hw0 := hW0.size
  obtain ⟨g1, g2, _, g3⟩ := hb.two hcs
  obtain ⟨bm, q1, q2⟩ := hA.open
  refine duties1_in n hn l Bb S a1 c1 a2 c2 I K J Jx hl1 hl2 hl2' hk2' hwf W (fun k hk => Nat.lt_of_lt_of_le (hS k hk) hW.size) hJ hY hBb ((hO.cell _ hBb g3).trans g1) ((hO.cell _ hBb g3).trans g2) bm (hS0 _ (lt_of_cell q1)) ((hW0.cell (p := ⟨0, 0, none⟩) (lt_of_cell q1)).trans q1) ?_ ?_ ?_ h0
  · intro w' hw' p hp
    exact q2 w' (fun k hk => (hw'.block k (hS0 k hk) (by omega)).trans (hW0.block k hk)) p hp
  · intro h
    obtain ⟨b, off, rfl, hlt, hrow⟩ := hop h
    exact ⟨b, off, rfl, hS0 b hlt, hrow.below hW0 hlt⟩
  · intro h
    obtain ⟨b, off, rfl, hlt, hrow⟩ := hoq h
    exact ⟨b, off, rfl, hS0 b hlt, hrow.below hW0 hlt⟩
end Go.Proofs.YthhgpiolcnojfaaDoor
